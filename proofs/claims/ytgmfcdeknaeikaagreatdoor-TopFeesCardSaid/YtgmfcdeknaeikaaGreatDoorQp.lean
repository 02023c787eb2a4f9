/-
Fee rules are parsed back from their text; Format.
Conditions: none.
-/
import Derived.Test.YtgmfcdeknaeikaaGreatDoorQo
import Derived.Test.YtgmfcdeknaeikaaGreatDoorQj
set_option linter.unusedSimpArgs false
set_option linter.unusedVariables false
set_option linter.defProp false
namespace Go.Proofs.YtgmfcdeknaeikaaGreatDoor
open Go.Vm
set_option maxHeartbeats 2000000
set_option maxRecDepth 20000
def oX:=An @Cd (An @C8 (An @C9 (An @CM (An @Cc (An @C6 (An @D1 (An @Cr (An @E5 (An @H2 (An @Es (An @D5 (An @Db (An @El (An @GP (An @Bn (An @De (An @Hh (An @Hi (An @HJ (An @QK (An @Do (An @Ek (An @KG (An @KA (An @KB (An @KH (An @J9 (An @KC (An @Nz (An @Js (An @Jt (An @LC (An @OO (An @SA (An @Bs (An @Lv (An @SK (An @FQ @VD))))))))))))))))))))))))))))))))))))))
theorem sy: ∀c,c<256→(BX c=true∨CL c=true)→c≠46:=by decide+kernel
def Eh(x:LR):Bool:=Aw x 4 ⟨#[46]⟩
def K7(T:List Tk):Prop:= ∀y∈BS T,Eh y=false
theorem K7.tl{x:LR}{T:List Tk}(h:K7 (.x x::T)):Eh x=false∧K7 T:=⟨h x (by simp[BS]),fun y hy=>h y (by simp[BS,hy])⟩
theorem K7.x{x:LR}{T:List Tk}(h:Eh x=false)(g:K7 T):K7 (.x x::T):=fun y hy=>by
 simp only[BS,List.mem_cons]at hy
 rcases hy with rfl|h1
 ·exact h
 ·exact g y h1
theorem K7.b{c:UInt8}{T:List Tk}(g:K7 T):K7 (.b c::T):=g
theorem K7.nil:K7 []:=fun y hy=>by cases hy
theorem iM{x:LR}(h:JG x)(hd:Eh x=false): ∃c l,Ad x=c::l∧c≠46:=by
 have ne: ∀{c:UInt8},c.toNat≠46→c≠46:=fun h e=>h (by rw[e];rfl)
 rcases h with⟨k,hn,h16,hw,c,l,h1,h2⟩|⟨k,ht,m,hm,hle⟩|⟨k,hn,h100,hl⟩|⟨k,hn,hm⟩
 ·exact⟨c,l,by simp[Ad,k,h1],ne (sy _ (CZ c) (.inl h2))⟩
 ·cases hd:Lib.decDigits m with
  |nil=>exact absurd hd (Hm m)
  |cons c l=>
   have h1:=DQ m
   rw[hd,CV,Bool.and_eq_true]at h1
   have:=Bm h1.1
   exact⟨c,l,by simp[Ad,k,hm,Lib.itoa,hd],ne (by omega)⟩
 ·exact⟨34,_,by simp[Ad,k];rfl,by decide⟩
 ·rcases hm with hm|hm|⟨c,hm,hc⟩
  ·exact⟨33,[61],by simp[Ad,k,hm],by decide⟩
  ·exact⟨60,[61],by simp[Ad,k,hm],by decide⟩
  ·exact⟨c,[],by simp[Ad,k,hm],fun e=>by
    subst e
    simp[Eh,Aw,k,hm,ByteArray.toList_eq]at hd⟩
theorem qU: ∀{T:List Tk} {r:List UInt8},K7 T→J3 T r→r.head? ≠some 46→(BZ T++r).head? ≠some 46
 | [],r,_,_,h=>h
 | .b c::L,r,_,h,_=>by
  have:c.toNat≠46:=sy _ (CZ c) (.inr h.1)
  simp only[BZ,List.cons_append,List.head?_cons,ne_eq,Option.some.injEq]
  intro e;rw[e]at this;exact this rfl
 | .x x::L,r,hn,h,_=>by
  obtain⟨c,l,e,hc⟩:=iM h.1 hn.tl.1
  simp only[BZ,e,List.cons_append,List.head?_cons,ne_eq,Option.some.injEq]
  exact hc
theorem O3(R:List UInt8): ∀l:List UInt8,Ax l=l.length→pW true (l++R)=l++pW true R
 | [],_=>rfl
 | c::l,h=>by
  simp only[Ax,List.length_cons]at h
  by_cases hc:BG c.toNat=true
  ·rw[if_pos hc]at h
   obtain⟨a1,a2,_,_⟩:=RX _ (CZ c) hc
   rw[List.cons_append,CC (w:=true) _ a1 a2 (by simp),hc,O3 R l (by omega)]
   rfl
  ·rw[if_neg hc]at h;omega
theorem JR: ∀(l:List UInt8),DM l=true→ ∀R:List UInt8,Dk R→BH (l++R)=l.length
 | [],_,R,h=>by
  rcases h with rfl|⟨c,m,rfl,h⟩
  ·rfl
  ·have:Ae c.toNat=false:=by
    cases hd:Ae c.toNat with
    |false=>rfl
    |true=>simp[BG,hd]at h
   simp[BH,this]
 |c::l,ha,R,h=>by
  rw[CV,Bool.and_eq_true]at ha
  simp only[List.cons_append,BH,ha.1,if_true,JR l ha.2 R h,List.length_cons]
theorem Z1{l R:List UInt8}(hl:DM l=true)(hs:Dk R)(h:R.head? ≠some 46):HH (l++R)=none:=by
 unfold HH
 rw[JR l hl R hs,List.drop_left]
 cases R with
 |nil=>rfl
 |cons c m=>
  have:c≠46:=fun e=>h (by rw[e];rfl)
  simp[this]
theorem nQ{x:LR}(hx:JG x){R:List UInt8}(hs:Ul x R)(h46:R.head? ≠some 46)(w:Bool): ∃w',pW w (Ad x++R)=Ad x++pW w' R:=by
 rcases hx with⟨k,hn,h16,hw,c,l,h1,h2⟩|⟨k,ht,m,hm,hle⟩|⟨k,hn,h100,hl⟩|⟨k,hn,hm⟩
 ·have hf:Ad x=c::l:=by simp[Ad,k,h1]
  rw[hf]
  obtain⟨n1,n2,_,n4,_,_⟩:=GH _ (CZ c) h2
  have hwc:BG c.toNat=true:=by simp[BG,h2]
  rw[h1]at hw
  simp only[Ax,hwc,if_true,List.length_cons]at hw
  refine⟨true, ?_⟩
  rw[List.cons_append,CC _ n4 n2 (by rw[n1];simp),hwc,O3 R l (by omega)]
  rfl
 ·have hf:Ad x=Lib.decDigits m:=by simp[Ad,k,hm,Lib.itoa]
  rw[hf]
  have hd:=DQ m
  have hst:=hs.1 (.inr k)
  have hfr:=Z1 hd hst h46
  cases hq:Lib.decDigits m with
  |nil=>exact absurd hq (Hm m)
  | cons c l=>
   rw[hq]at hd hfr
   have hwl:=Mi _ hd
   rw[CV,Bool.and_eq_true]at hd
   obtain⟨_,n2,_,n4,_,_,hwc⟩:=EW _ (CZ c) hd.1
   simp only[Ax,hwc,if_true,List.length_cons]at hwl
   refine⟨true, ?_⟩
   have e:pW w (c::(l++R))=c::pW true (l++R):=by
    rw[Cs,if_neg (show c≠35 from Hf n4 (by decide)),if_neg (show c≠34 from Hf n2 (by decide))]
    split
    ·rw[show c::(l++R)=(c::l)++R from rfl,hfr]
    ·rw[hwc]
   rw[List.cons_append,e,O3 R l (by omega)]
   rfl
 ·have hf:Ad x=34::(x.t.toList++[34]):=by simp[Ad,k]
  rw[hf]
  obtain⟨m1,m2⟩:=L3 hl
  have hu:Ce 34 ((x.t.toList++[34])++R)=x.t.toList.length+1:=by
   cases R with
   |nil=>rw[List.append_nil];exact m2
   |cons y r=>rw[PU y r m1];exact m2
  refine⟨false, ?_⟩
  have hll:(x.t.toList++[34]).length=x.t.toList.length+1:=by simp
  rw[List.cons_append,Cs,if_neg (by decide),if_pos rfl,hu,←hll,List.take_left,List.drop_left]
  rfl
 ·rcases hm with hm|hm|⟨c,hm,hc⟩
  ·have hf:Ad x=[33,61]:=by simp[Ad,k,hm]
   rw[hf]
   refine⟨false, ?_⟩
   show pW w (33::61::R)=_
   rw[CC _ (by decide) (by decide) (fun h=>absurd h.1 (by decide)),CC _ (by decide) (by decide) (fun h=>absurd h.1 (by decide))]
   rfl
  ·have hf:Ad x=[60,61]:=by simp[Ad,k,hm]
   rw[hf]
   refine⟨false, ?_⟩
   show pW w (60::61::R)=_
   rw[CC _ (by decide) (by decide) (fun h=>absurd h.1 (by decide)),CC _ (by decide) (by decide) (fun h=>absurd h.1 (by decide))]
   rfl
  ·have hf:Ad x=[c]:=by simp[Ad,k,hm]
   rw[hf]
   obtain⟨n1,n2,n3,n4⟩:=kk _ (CZ c) hc
   refine⟨false, ?_⟩
   show pW w (c::R)=_
   rw[CC _ n3 n4 (by rw[n1];simp),n2]
   rfl
theorem Qv: ∀(T:List Tk) (r:List UInt8) (w:Bool),K7 T→J3 T r→r.head? ≠some 46→ ∃w',pW w (BZ T++r)=BZ T++pW w' r
 | [],r,w,_,_,_=>⟨w,rfl⟩
 | .b c::L,r,w,hn,h,h46=>by
  obtain⟨b1,b2,b3,b4⟩:=J7 _ (CZ c) h.1
  obtain⟨w',e⟩:=Qv L r false hn h.2 h46
  refine⟨w', ?_⟩
  simp only[BZ,List.cons_append]
  rw[CC _ b3 b4 (by rw[b1];simp),b2,e]
 | .x x::L,r,w,hn,h,h46=>by
  obtain⟨w1,e1⟩:=nQ h.1 h.2.1 (qU hn.tl.2 h.2.2 h46) w
  obtain⟨w',e⟩:=Qv L r w1 hn.tl.2 h.2.2 h46
  refine⟨w', ?_⟩
  simp only[BZ,List.append_assoc]
  rw[e1,e]
theorem nR(T:List Tk)(c:UInt8)(r:List UInt8)(w:Bool)(hn:K7 T)(h:J3 T (c::r))(hc:CL c.toNat=true):pW w (BZ T++c::r)=BZ T++c::pW false r:=by
 have hne:c.toNat≠46:=sy _ (CZ c) (.inr hc)
 obtain⟨w',e⟩:=Qv T (c::r) w hn h (by simp only[List.head?_cons,ne_eq,Option.some.injEq];intro e;rw[e]at hne;exact hne rfl)
 obtain⟨b1,b2,b3,b4⟩:=J7 _ (CZ c) hc
 rw[e,CC _ b3 b4 (by rw[b1];simp),b2]
def Jj:Nat→List Tk→List ((Int×ByteArray×Int)×Nat)
 |_,[]=>[]
 |i,.x r::L=>(Cl r,i)::Jj (i+(Ad r).length) L
 |i,.b _::L=>Jj (i+1) L
theorem Ow: ∀(A B:List Tk) (i:Nat),Jj i (A++B)=Jj i A++Jj (i+(BZ A).length) B
 | [],B,i=>by simp[Jj,BZ]
 | .x r::A,B,i=>by simp only[List.cons_append,Jj,BZ,Ow A B,List.length_append,Nat.add_assoc]
 | .b c::A,B,i=>by simp only[List.cons_append,Jj,BZ,Ow A B,List.length_cons];rw[show i+1+(BZ A).length=i+((BZ A).length+1) by omega]
theorem LN: ∀(T:List Tk) (i:Nat),(Jj i T).length=ln T
 | [],i=>rfl
 | .x r::A,i=>by simp only[Jj,List.length_cons,LN A];simp[ln,BS]
 | .b c::A,i=>by simp only[Jj,LN A];simp[ln,BS]
theorem Md(s:ByteArray): ∀(L:List Tk) (f i:Nat),s.size<i+Bi false (s.toList.drop i)+f→i≤s.size→J3 L []→s.toList.drop i=BZ L→ ∃K,A9 s f (i+Bi false (s.toList.drop i))=(0,0,K++[DS s])∧K.map (J0 0)=Jj i L
 | [],f,i,h,hi,_,hd=>by
  have hn:i=s.size:=by
   have:=congrArg List.length hd
   rw[List.length_drop,AP]at this
   simp[BZ]at this;omega
  rw[hd]at h⊢
  simp only[BZ,Bi,Nat.add_zero]at h⊢
  cases f with
  |zero=>omega
  |succ f=>exact⟨[],by rw[C0 f (by omega)];rfl,rfl⟩
 | .b c::L,f,i,h,hi,⟨hc,hw⟩,hd=>by
  obtain⟨hp,_,hl',hsl,hb⟩:=Bj hd
  have h35:c.toNat≠35:=fun e=>by rw[e]at hc;exact absurd hc (by decide)
  have hk:Bi false (s.toList.drop i)=1+Bi false (s.toList.drop (i+1)):=by
   rw[hd,hl']
   simp only[BZ,Bi,hc,h35,Bool.or_true,decide_false,Bool.or_false,Bool.false_and,if_true]
   omega
  rw[hk]at h⊢
  rw[show i+(1+Bi false (s.toList.drop (i+1)))=i+1+Bi false (s.toList.drop (i+1)) by omega]
  exact Md s L f (i+1) (by omega) (by omega) hw hl'
 | .x r::L,f,i,h,hi,⟨wx,ws,wL⟩,hd=>by
  rw[List.append_nil]at ws
  have hr:s.toList.drop i=Ad r++BZ L:=hd
  have hk:Bi false (s.toList.drop i)=0:=by rw[hr];exact U8 wx _
  have hlex:=Nk wx hr ws
  have hpos:0<(Ad r).length:=by obtain⟨c,l,e,_⟩:=KD wx;rw[e];simp
  have hlen:=congrArg List.length hr
  rw[List.length_drop,AP,List.length_append]at hlen
  have hd2:s.toList.drop (i+(Ad r).length)=BZ L:=by rw[←List.drop_drop,hr];simp
  rw[hk]at h⊢
  rw[Nat.add_zero]at h⊢
  cases f with
  |zero=>omega
  |succ f=>
   have hk2:=D8 false (s.toList.drop (i+(Ad r).length))
   obtain⟨K,k1,k2⟩:=Md s L f (i+(Ad r).length) (by omega) (by omega) wL hd2
   rw[DC f (by omega) (by rw[hlex]) (j:=i+(Ad r).length+Bi false (s.toList.drop (i+(Ad r).length))) (by rw[hlex]),k1,hlex]
   exact⟨⟨r.k,r.t,r.n,i,i+(Ad r).length,0⟩::K,rfl,by simp only[List.map_cons,k2,Jj];rfl⟩
theorem X9(L:List Tk)(h:J3 L [])(hl:(BZ L).length≤4000): ∃K,AG (bs (BZ L))=(0,0,K++[DS (bs (BZ L))])∧K.map (J0 0)=Jj 0 L:=by
 have hs:=Ab (BZ L)
 unfold AG
 rw[if_neg (by omega)]
 have:=Md (bs (BZ L)) L ((bs (BZ L)).size+1) 0 (by omega) (by omega) h (by rw[Ar,List.drop_zero])
 rw[List.drop_zero,Nat.zero_add]at this
 exact this
def Pg(L:List LR)(i:Nat)(X:List ((Int×ByteArray×Int)×Nat)):Prop:= ∀(j:Nat) (x:(Int×ByteArray×Int)×Nat),X[j]? =some x→Cl (Af L (i+j))=x.1∧CR L (i+j)=x.2
theorem Pg.app{L:List LR}{i:Nat}{X Y:List ((Int×ByteArray×Int)×Nat)}(h:Pg L i (X++Y)):Pg L i X∧Pg L (i+X.length) Y:=by
 refine⟨fun j x hx=>h j x (by rw[List.getElem?_append_left (List.getElem?_eq_some_iff.1 hx).1];exact hx),fun j x hx=> ?_⟩
 have:=h (X.length+j) x (by rw[List.getElem?_append_right (by omega),Nat.add_sub_cancel_left];exact hx)
 rwa [←Nat.add_assoc]at this
theorem Pg.hd{L:List LR}{i:Nat}{x:(Int×ByteArray×Int)×Nat}{X:List ((Int×ByteArray×Int)×Nat)}(h:Pg L i (x::X)):(Cl (Af L i)=x.1∧CR L i=x.2)∧Pg L (i+1) X:=by
 refine⟨h 0 x rfl,fun j y hy=> ?_⟩
 have:=h (j+1) y hy
 rwa [show i+(j+1)=i+1+j by omega]at this
theorem Pg.of{L K:List LR}{e:LR}{X:List ((Int×ByteArray×Int)×Nat)}(hL:L=K++[e])(hK:K.map (J0 0)=X):Pg L 0 X:=fun j x hx=>by
 rw[←hK,List.getElem?_map]at hx
 cases hk:K[j]? with
 |none=>rw[hk]at hx;cases hx
 |some y=>
  rw[hk]at hx
  have hj:=(List.getElem?_eq_some_iff.1 hk).1
  have hy:Af L (0+j)=y:=Eo (by rw[hL,Nat.zero_add,List.getElem?_append_left hj];exact hk)
  unfold CR
  rw[hy]
  simp only[Option.map_some,Option.some.injEq]at hx
  rw[←hx]
  exact⟨rfl,rfl⟩
def NO(T:List Tk):Prop:= ∀y∈BS T,y.k≠0∧DE y=false∧Eh y=false
def pD(T:List Tk):Prop:= ∃y l,T=.x y::l
theorem NO.app{A B:List Tk}(h:NO A)(g:NO B):NO (A++B):=fun y hy=>by
 rw[DA]at hy
 rcases List.mem_append.1 hy with h1|h1
 ·exact h y h1
 ·exact g y h1
theorem NO.x{x:LR}{T:List Tk}(h:x.k≠0∧DE x=false∧Eh x=false)(g:NO T):NO (.x x::T):=fun y hy=>by
 rcases List.mem_cons.1 hy with rfl|h1
 ·exact h
 ·exact g y h1
theorem NO.b{c:UInt8}{T:List Tk}(g:NO T):NO (.b c::T):=g
theorem NO.nil:NO []:=fun y hy=>by cases hy
theorem NO.d{T:List Tk}(h:NO T):K7 T:=fun y hy=>(h y hy).2.2
theorem Nq(t:ByteArray):(C4 t).k≠0∧DE (C4 t)=false∧Eh (C4 t)=false:=by simp[C4,DE,Eh,Aw]
theorem Ue(n:Int):(Mq n).k≠0∧DE (Mq n)=false∧Eh (Mq n)=false:=by simp[Mq,DE,Eh,Aw]
theorem qa(t:ByteArray):(YP t).k≠0∧DE (YP t)=false∧Eh (YP t)=false:=by simp[YP,DE,Eh,Aw]
theorem Ud{t:ByteArray}(h:t.toList≠[58])(h2:t.toList≠[46]):(Cb t).k≠0∧DE (Cb t)=false∧Eh (Cb t)=false:=by
 refine⟨by simp[Cb], ?_, ?_⟩
 ·simp only[Cb,DE,Aw,ml]
  simpa using h
 ·simp only[Cb,Eh,Aw,ml]
  simpa using h2
theorem ai:(Cb ⟨#[40]⟩).k≠0∧DE (Cb ⟨#[40]⟩)=false∧Eh (Cb ⟨#[40]⟩)=false:=Ud (by rw[ml];decide) (by rw[ml];decide)
theorem ah:(Cb ⟨#[41]⟩).k≠0∧DE (Cb ⟨#[41]⟩)=false∧Eh (Cb ⟨#[41]⟩)=false:=Ud (by rw[ml];decide) (by rw[ml];decide)
theorem kl:(Cb ⟨#[44]⟩).k≠0∧DE (Cb ⟨#[44]⟩)=false∧Eh (Cb ⟨#[44]⟩)=false:=Ud (by rw[ml];decide) (by rw[ml];decide)
theorem L5{k:Int}{x:Xs}(h:NO (kX x)):NO (CS k x):=by
 unfold CS YN
 split
 ·exact h
 ·exact .x ai (h.app (.x ah .nil))
theorem kh{k:Int}{x:Xs}(h:pD (kX x)):pD (CS k x):=by
 unfold CS YN
 split
 ·exact h
 ·exact⟨_,_,rfl⟩
theorem pD.app{A B:List Tk}(h:pD A):pD (A++B):=by
 obtain⟨y,l,rfl⟩:=h
 exact⟨y,l++B,rfl⟩
theorem qZ{op:Int}(h:6≤op∧op≤14):(Jx op).k≠0∧DE (Jx op)=false∧Eh (Jx op)=false:=by
 have:op=6∨op=7∨op=8∨op=9∨op=10∨op=11∨op=12∨op=13∨op=14:=by omega
 rcases this with rfl|rfl|rfl|rfl|rfl|rfl|rfl|rfl|rfl<;>decide+kernel
theorem mz{x:Xs}(h:WrX x):NO (kX x)∧pD (kX x):=by
 induction h with
 |num h1 h2=>rw[SV];exact⟨.x (Ue _) .nil,_,_,rfl⟩
 |txt h=>rw[SX];exact⟨.x (qa _) .nil,_,_,rfl⟩
 |nam h=>rw[SR];exact⟨.x (Nq _) .nil,_,_,rfl⟩
 | @use op n t h h1 h2 h3=>
  rw[SY h]
  exact⟨.x (Nq _) (.x ai (.x (Nq _) (.x kl (.b (.x (Ue _) (.x ah .nil)))))),_,_,rfl⟩
 | @one op a h ha ih=>
  rcases h with rfl|rfl
  ·rw[SU];exact⟨.x (Nq _) (.b (L5 ih.1)),_,_,rfl⟩
  ·rw[ST];exact⟨.x (Ud (by rw[ml];decide) (by rw[ml];decide)) (L5 ih.1),_,_,rfl⟩
 | @two op a b h ha hb iha ihb=>
  rw[SW h]
  exact⟨(L5 iha.1).app (.b (.x (qZ h) (.b (L5 ihb.1)))),(kh iha.2).app⟩
 | @inn a b l ha hb hl iha ihb ihl=>
  have hR: ∀l:List Xs,(∀x∈l,NO (kX x))→NO (l.flatMap fun x=>JB:: .b 32::CS 4 x):=by
   intro l
   induction l with
   |nil=>intro _;exact .nil
   |cons y l ih=>
    intro h
    rw[List.flatMap_cons]
    exact NO.app (.x kl (.b (L5 (h y (by simp))))) (ih fun z hz=>h z (by simp[hz]))
  rw[SQ]
  refine⟨(L5 iha.1).app (.b (.x (Nq _) (.b (.x ai ?_)))),(kh iha.2).app⟩
  exact((L5 ihb.1).app (hR l fun y hy=>(ihl y hy).1)).app (.x ah .nil)
set_option maxHeartbeats 4000000
set_option maxRecDepth 20000
def F3(w:List UInt8)(n:Int):List UInt8:=if n=0 then []else 32::(w++32::Lib.itoa n)
def J2(n:Int):Bool:=decide (0≤n)&&decide (n≤9007199254740992)
def G1(u:Fu):List UInt8:=[102,101,101,32]++u.nm.toList++[32,119,104,101,110,32]++tX u.w++[58,32]++Nw u.bps
def HR(u:Fu):List UInt8:=G1 u++F3 [43] u.fx++F3 [109,105,110] u.mn++F3 [109,97,120] u.mx++[59,10]
def Kw(u:Fu):Bool:=wX u.w&&(decide (0≤u.bps)&&(decide (u.bps≤10000)&&(J2 u.fx&&(J2 u.mn&&J2 u.mx))))
def HQ(s:ByteArray):Bool:= !(kr s)&&Bp s
def Mz(dn:List Fu)(u:Fu):Bool:=HQ u.nm&&(!(Cn u.nm dn)&&Kw u)
def H9(dn:List Fu):List Fu→Bool
 | []=>true
 |u::l=>Mz dn u&&H9 (dn++[u]) l
def ov(us:List Fu):Bool:=decide (us.length≤64)&&H9 [] us
def E8(us:List Fu):List UInt8:=us.flatMap HR
def Gw(us:List Fu):List UInt8:=if ov us=true then E8 us else []
def d3(m:Nat):List UInt8:=if m<10 then [UInt8.ofNat (48+m)]else if m<100 then [UInt8.ofNat (48+m / 10),UInt8.ofNat (48+m % 10)]else [49,48,48]
theorem Y9{m:Nat}(h:m≤100):Lib.decDigits m=d3 m:=by
 unfold d3
 split
 ·rename_i h1;exact Lib.decDigits_one h1
 split
 ·rename_i h1 h2;exact Lib.decDigits_two h1 h2
 ·have:m=100:=by omega
  subst this
  rw[Lib.decDigits,dif_neg (by decide),Lib.decDigits_two (by decide) (by decide)]
  rfl
def pK(n:Nat):List UInt8:=d3 (n / 100)++((if n % 100=0 then []else 46::(d3 (n % 100 / 10)++(if n % 10=0 then []else d3 (n % 10))))++[37])
theorem Lx(m:Nat):Lib.itoa (m:Int)=Lib.decDigits m:=by unfold Lib.itoa;rw[if_neg (by omega),Int.toNat_natCast]
theorem kq{n:Nat}(h:n≤10000):Nw (n:Int)=pK n:=by
 unfold Nw pK
 have e1:(n:Int) / 100=((n / 100:Nat):Int):=by omega
 have e2:(n:Int) % 100 / 10=((n % 100 / 10:Nat):Int):=by omega
 have e3:(n:Int) % 10=((n % 10:Nat):Int):=by omega
 have e4:((n:Int) % 100=0)=(n % 100=0):=propext (by omega)
 have e5:(((n % 10:Nat):Int)=0)=(n % 10=0):=propext (by omega)
 rw[e1,e2,e3,Lx,Lx,Lx,Y9 (by omega),Y9 (by omega),Y9 (by omega)]
 simp only[e4,e5]
def sV(b:Nat):Option (List UInt8):=if b=0 then none else some (d3 (b / 10)++(if b % 10=0 then []else d3 (b % 10)))
theorem Ou(n:Nat):pK n=(d3 (n / 100)++Fa (sV (n % 100)))++[37]:=by
 unfold pK sV
 have e:n % 100 % 10=n % 10:=by omega
 rw[e]
 split
 ·simp[Fa]
 ·simp[Fa]
theorem ry: ∀a,a<101→bS (d3 a)=true∧(d3 a).length≤3∧Cv (d3 a)=a∧(46:UInt8)∉d3 a:=by decide+kernel
theorem qF: ∀b,b<100→UK (sV b)=true∧Ob (sV b)=b:=by decide+kernel
theorem P4: ∀(w:List UInt8) (f:Option (List UInt8)),(46:UInt8)∉w→D2 (w++Fa f)=(w,f)
 | [],none,_=>rfl
 | [],some f,_=>by simp[Fa,D2]
 |c::w,f,h=>by
  simp only[List.mem_cons,not_or]at h
  rw[List.cons_append,D2,if_neg (fun e=>h.1 e.symm),P4 w f h.2]
theorem rA{n:Int}(h0:0≤n)(h1:n≤10000):Ux (Nw n)=some n:=by
 have e0:n=((n.toNat:Nat):Int):=by omega
 generalize n.toNat=m at e0
 subst e0
 have hm:m≤10000:=by omega
 obtain⟨a1,a2,a3,a4⟩:=ry (m / 100) (by omega)
 obtain⟨b1,b2⟩:=qF (m % 100) (by omega)
 have h:Ny (pK m)=((m:Int),0):=by
  rw[Uz (by rw[Ou];simp) (by rw[Ou];simp),Ou,List.dropLast_concat,P4 _ _ a4]
  unfold Su
  simp only
  rw[if_neg (by rw[a1];simp),if_neg (by rw[b1];simp),if_neg (by omega),a3,b2,if_neg (by omega)]
  simp only[Prod.mk.injEq,and_true]
  omega
 rw[kq hm]
 unfold Ux
 rw[h];rfl
set_option maxHeartbeats 2000000
set_option maxRecDepth 20000
def uh:ByteArray:=⟨#[119,104,101,110]⟩
def DN(w:LR)(n:Int):List Tk:=if n=0 then []else [.b 32,.x w,.b 32,.x (Mq n)]
def FD(u:Fu):List Tk:=DN (Cb ⟨#[43]⟩) u.fx++(DN (C4 FB) u.mn++(DN (C4 FA) u.mx++[.x (Cb ⟨#[59]⟩)]))
def Hy(u:Fu):List Tk:=[.x (C4 F2),.b 32,.x (C4 u.nm),.b 32,.x (C4 uh),.b 32]
def GL(u:Fu):List Tk:=[.x (Cb ⟨#[58]⟩),.b 32,.x (Mq (u.bps / 100))]
def F0(u:Fu):List Tk:=.x (Cb ⟨#[37]⟩)::FD u
def DT(n:Int):List UInt8:=if n % 100=0 then []else 46::(Lib.itoa (n % 100 / 10)++(if n % 10=0 then []else Lib.itoa (n % 10)))
def Oj(u:Fu)(k:Nat):List Tk:=Hy u++(kX u.w++(GL u++(List.replicate k (.b 32)++F0 u)))
def EJ(u:Fu):List UInt8:=BZ (Hy u)++(tX u.w++(BZ (GL u)++(DT u.bps++BZ (F0 u))))
theorem Zy(w:LR)(n:Int):BZ (DN w n)=F3 (Ad w) n:=by
 unfold DN F3
 split
 ·rfl
 ·simp[BZ,EA]
theorem Z6(u:Fu):HR u=EJ u++[10]:=by
 simp only[HR,G1,EJ,Hy,GL,F0,FD,Nw,DT,BZ,CY,GK,Bo,EA,Zy,ml,F2,uh,FB,FA]
 simp
theorem L4(u:Fu)(k:Nat):BZ (Oj u k)=BZ (Hy u)++(tX u.w++(BZ (GL u)++(List.replicate k 32++BZ (F0 u)))):=by
 have h: ∀k:Nat,BZ (List.replicate k (.b 32))=List.replicate k 32:=fun k=>by
  induction k with
  |zero=>rfl
  |succ k ih=>simp only[List.replicate_succ,BZ,ih]
 simp only[Oj,CY,FP,h]
theorem Fo(l:List UInt8):Dk (32::l):=C1 (by decide) l
theorem SF{w:LR}(hw:JG w)(hs: ∀r,Ul w (32::r)){n:Int}(h:J2 n=true){r:List UInt8}(hr:Dk r):J3 (DN w n) r∧Dk (BZ (DN w n)++r):=by
 simp only[J2,Bool.and_eq_true,decide_eq_true_eq]at h
 unfold DN
 split
 ·exact⟨trivial,hr⟩
 ·exact⟨⟨by decide,hw,hs _,by decide,VP h.1 h.2,Um _ hr,trivial⟩,Fo _⟩
theorem od:JG (C4 FB):=GC (by decide+kernel)
theorem oc:JG (C4 FA):=GC (by decide+kernel)
theorem bK{u:Fu}(h1:J2 u.fx=true)(h2:J2 u.mn=true)(h3:J2 u.mx=true):J3 (FD u) []∧Dk (BZ (FD u)):=by
 have hc:J3 [Tk.x (Cb ⟨#[59]⟩)] []:=⟨Ez (by decide+kernel),Et (by rw[ml];decide) _,trivial⟩
 have ec:BZ [Tk.x (Cb ⟨#[59]⟩)]=[59]:=by simp[BZ,Bo,ml]
 obtain⟨a1,a2⟩:=SF oc (fun r=>FT _ (Fo r)) h3 (r:=[59]) (C1 (by decide) _)
 obtain⟨b1,b2⟩:=SF od (fun r=>FT _ (Fo r)) h2 a2
 obtain⟨c1,c2⟩:=SF (w:=Cb ⟨#[43]⟩) (Ez (by decide+kernel)) (fun r=>Et (by rw[ml];decide) _) h1 b2
 unfold FD
 refine⟨?_, ?_⟩
 ·rw[CP,CP,CP]
  simp only[CY,ec,List.append_nil]at*
  exact⟨c1,b1,a1,hc⟩
 ·simp only[CY,ec];exact c2
theorem bp: ∀(k:Nat) {T:List Tk} {r:List UInt8},J3 T r→J3 (List.replicate k (.b 32)++T) r
 |0,T,r,h=>h
 |k+1,T,r,h=>⟨by decide,bp k h⟩
theorem Zx{s:ByteArray}(h:HQ s=true):JG (C4 s):=by
 unfold HQ at h
 simp only[Bool.and_eq_true]at h
 exact GC h.2
theorem Jh{u:Fu}(h:Kw u=true):wX u.w=true∧0≤u.bps∧u.bps≤10000∧J2 u.fx=true∧J2 u.mn=true∧J2 u.mx=true:=by
 unfold Kw at h
 simpa only[Bool.and_eq_true,decide_eq_true_eq]using h
theorem br: ∀(k:Nat) {r:List UInt8},Dk r→Dk (List.replicate k 32++r)
 |0,r,h=>h
 |k+1,r,h=>by rw[List.replicate_succ];exact Fo _
theorem Sc{u:Fu}(hn:HQ u.nm=true)(hw:Kw u=true)(k:Nat):J3 (Oj u k) []:=by
 obtain⟨w1,w2,w3,w4,w5,w6⟩:=Jh hw
 obtain⟨o1,o2⟩:=bK w4 w5 w6
 have he:J3 (F0 u) []:=⟨Ez (by decide+kernel),Et (by rw[ml];decide) _,o1⟩
 have es:Dk (BZ (F0 u)++[]):=by
  rw[List.append_nil]
  have:BZ (F0 u)=37::BZ (FD u):=by simp[F0,BZ,Bo,ml]
  rw[this];exact C1 (by decide) _
 have hb: ∀k:Nat,BZ (List.replicate k (.b 32))=List.replicate k 32:=fun k=>by
  induction k with
  |zero=>rfl
  |succ k ih=>simp only[List.replicate_succ,BZ,ih]
 unfold Oj
 rw[CP]
 refine⟨⟨GC (by decide+kernel),FT _ (Fo _),by decide,Zx hn,FT _ (Fo _),by decide,GC (by decide+kernel),FT _ (Fo _),by decide,trivial⟩, ?_⟩
 rw[CP]
 refine⟨s9 (Kb _ w1) _ ?_, ?_⟩
 ·have: ∀r,BZ (GL u++r)=58::32::(Lib.itoa (u.bps / 100)++BZ r):=fun r=>by simp[GL,BZ,Bo,EA,ml]
  rw[this]
  exact C1 (by decide) _
 rw[CP]
 refine⟨⟨Ez (by decide+kernel),Et (by rw[ml];decide) _,by decide,VP (by omega) (by omega),Um _ ?_,trivial⟩,bp k he⟩
 simp only[BZ,List.nil_append]
 rw[CY,hb,List.append_assoc]
 exact br k es
theorem FR{A B:List Tk}(h:K7 A)(g:K7 B):K7 (A++B):=fun y hy=>by
 rw[DA]at hy
 rcases List.mem_append.1 hy with h1|h1
 ·exact h y h1
 ·exact g y h1
theorem L8(t:ByteArray):Eh (C4 t)=false:=(Nq t).2.2
theorem Om{w:LR}(h:Eh w=false)(n:Int):K7 (DN w n):=by
 unfold DN
 split
 ·exact .nil
 ·exact .b (.x h (.b (.x (Ue _).2.2 .nil)))
theorem L7{t:ByteArray}(h:t.toList≠[46]):Eh (Cb t)=false:=by simpa[Eh,Aw,Cb,ml]using h
theorem Ui(u:Fu):K7 (F0 u):=
 .x (L7 (by rw[ml];decide)) (FR (Om (L7 (by rw[ml];decide)) _) (FR (Om (L8 _) _) (FR (Om (L8 _) _) (.x (L7 (by rw[ml];decide)) .nil))))
theorem Uj(u:Fu):K7 (Hy u):=.x (L8 _) (.b (.x (L8 _) (.b (.x (L8 _) (.b .nil)))))
theorem jF(u:Fu):K7 (GL u):=.x (L7 (by rw[ml];decide)) (.b (.x (Ue _).2.2 .nil))
theorem Uk{T:List Tk}(h:K7 T): ∀k:Nat,K7 (List.replicate k (.b 32)++T)
 |0=>h
 |k+1=>.b (Uk h k)
set_option maxHeartbeats 2000000
set_option maxRecDepth 20000
theorem iP{n:Int}(h0:0≤n)(h1:n≤10000)(hz:DT n≠[])(m:Nat)(r:List UInt8):HH (Lib.decDigits m++(DT n++37::r))=some ((Lib.decDigits m).length,(DT n).length):=by
 unfold DT at hz⊢
 have hne: ¬n % 100=0:=fun e=>hz (if_pos e)
 rw[if_neg hne]
 have hd: ∃f,(Lib.itoa (n % 100 / 10)++(if n % 10=0 then []else Lib.itoa (n % 10)))=f∧DM f=true∧f≠[]:=by
  refine⟨_,rfl, ?_, ?_⟩
  ·have e1:Lib.itoa (n % 100 / 10)=Lib.decDigits (n % 100 / 10).toNat:=by unfold Lib.itoa;rw[if_neg (by omega)]
   have e2:Lib.itoa (n % 10)=Lib.decDigits (n % 10).toNat:=by unfold Lib.itoa;rw[if_neg (by omega)]
   have d1:=DQ (n % 100 / 10).toNat
   have d2:=DQ (n % 10).toNat
   rw[e1]
   split
   ·rw[List.append_nil];exact d1
   ·rw[e2]
    unfold DM at d1 d2⊢
    rw[List.all_append,d1,d2];rfl
  ·have:=Jd (n % 100 / 10)
   simp[this]
 obtain⟨f,e,hf,hfn⟩:=hd
 rw[e]
 have hp:Dk (37::r):=C1 (by decide) _
 have h46:Dk (46::(f++37::r)):=C1 (by decide) _
 have e1:=JR _ (DQ m) _ h46
 have e2:=JR f hf (37::r) hp
 have hl:f.length≠0:=fun e=>hfn (List.eq_nil_of_length_eq_zero e)
 unfold HH
 rw[List.cons_append,e1,List.drop_left]
 simp only[if_true]
 rw[e2,if_neg hl,List.drop_left]
 simp
theorem Uw{u:Fu}(hn:HQ u.nm=true)(hw:Kw u=true):bR (EJ u)=BZ (Oj u (DT u.bps).length):=by
 obtain⟨w1,w2,w3,w4,w5,w6⟩:=Jh hw
 have hx:=(mz (Kb _ w1)).1.d
 rw[Sr]
 by_cases hz:DT u.bps=[]
 ·have e:EJ u=BZ (Oj u (DT u.bps).length):=by rw[L4,EJ,hz];rfl
  rw[e]
  obtain⟨w',h⟩:=Qv (Oj u (DT u.bps).length) [] false (FR (Uj u) (FR hx (FR (jF u) (Uk (Ui u) _)))) (Sc hn hw _) (by simp)
  rw[List.append_nil,Fk,List.append_nil]at h
  exact h
 ·have hbps:Lib.itoa (u.bps / 100)=Lib.decDigits (u.bps / 100).toNat:=by unfold Lib.itoa;rw[if_neg (by omega)]
  obtain⟨m,hm⟩: ∃m,(u.bps / 100).toNat=m:=⟨_,rfl⟩
  rw[hm]at hbps
  have hend:BZ (F0 u)=37::BZ (FD u):=by simp[F0,BZ,Bo,ml]
  have hA:BZ (Hy u)++(tX u.w++(BZ (GL u)++(DT u.bps++BZ (F0 u))))=BZ (Hy u++(kX u.w++[.x (Cb ⟨#[58]⟩)]))++32::(Lib.decDigits m++(DT u.bps++37::BZ (FD u))):=by
   simp only[CY,FP,GL,BZ,Bo,EA,ml,hend,hbps]
   simp
  have hok:=Sc hn hw 0
  have hsp:Oj u 0=(Hy u++(kX u.w++[.x (Cb ⟨#[58]⟩)]))++(.b 32:: .x (Mq (u.bps / 100))::F0 u):=by simp[Oj,GL]
  rw[hsp,CP]at hok
  have hfr:=iP w2 w3 hz m (BZ (FD u))
  rw[EJ,hA,nR _ 32 _ false (FR (Uj u) (FR hx (.x (L7 (by rw[ml];decide)) .nil))) ?_ (by decide)]
  rotate_left
  ·have:=hok.1
   simp only[BZ,List.append_nil]at this
   obtain⟨a1,a2⟩:=(CP _ _ _).1 this
   refine(CP _ _ _).2 ⟨?_, ?_⟩
   ·have e:BZ (kX u.w++[Tk.x (Cb ⟨#[58]⟩)])++32::(Lib.decDigits m++(DT u.bps++37::BZ (FD u)))=tX u.w++58::32::(Lib.decDigits m++(DT u.bps++37::BZ (FD u))):=by simp[CY,FP,BZ,Bo,ml]
    exact⟨GC (by decide+kernel),FT _ (Fo _),by decide,Zx hn,FT _ (Fo _),by decide,GC (by decide+kernel),FT _ (Fo _),by decide,trivial⟩
   ·refine(CP _ _ _).2 ⟨s9 (Kb _ w1) _ ?_,Ez (by decide+kernel),Et (by rw[ml];decide) _,trivial⟩
    simp only[BZ,Bo,ml]
    exact C1 (by decide) _
  rw[L4]
  have hE:pW false (Lib.decDigits m++(DT u.bps++37::BZ (FD u)))=Lib.decDigits m++(List.replicate (DT u.bps).length 32++BZ (F0 u)):=by
   obtain⟨w',hpe⟩:=Qv (F0 u) [] false (Ui u) (by
    obtain⟨o1,o2⟩:=bK w4 w5 w6
    exact⟨Ez (by decide+kernel),Et (by rw[ml];decide) _,o1⟩) (by simp)
   rw[List.append_nil,Fk,List.append_nil]at hpe
   have hd:=DQ m
   cases hq:Lib.decDigits m with
   |nil=>exact absurd hq (Hm m)
   |cons c l=>
    rw[hq]at hd hfr
    rw[CV,Bool.and_eq_true]at hd
    obtain⟨_,n2,_,n4,_,_,hwc⟩:=EW _ (CZ c) hd.1
    have hl:(c::l).length+(DT u.bps).length=((c::l)++DT u.bps).length:=by rw[List.length_append]
    rw[List.cons_append,Cs,if_neg (show c≠35 from Hf n4 (by decide)),if_neg (show c≠34 from Hf n2 (by decide)),if_pos ⟨hd.1,rfl⟩]
    rw[List.cons_append]at hfr
    simp only[hfr]
    rw[←List.cons_append,List.take_left,hl,(List.append_assoc (c::l) (DT u.bps) (37::BZ (FD u))).symm,List.drop_left,←hend,hpe]
  rw[hE]
  simp only[CY,FP,GL,BZ,Bo,EA,ml,hbps]
  simp
theorem Ox: ∀(T:List Tk) (i:Nat),(Jj i T).map Prod.fst=(BS T).map Cl
 | [],_=>rfl
 | .x r::L,i=>by simp only[Jj,BS,List.map_cons,Ox L]
 | .b c::L,i=>by simp only[Jj,BS,Ox L]
theorem Pg.key{L:List LR}{i p:Nat}{T:List Tk}(h:Pg L i (Jj p T)):LS L i (BS T):=fun j x hx=>by
 have h1:((Jj p T).map Prod.fst)[j]? =some (Cl x):=by rw[Ox,List.getElem?_map,hx];rfl
 rw[List.getElem?_map]at h1
 cases hk:(Jj p T)[j]? with
 |none=>rw[hk]at h1;cases h1
 |some y=>
  rw[hk]at h1
  simp only[Option.map_some,Option.some.injEq]at h1
  rw[(h j y hk).1,h1]
theorem Pg.ap{L:List LR}{i p:Nat}{A B:List Tk}(h:Pg L i (Jj p (A++B))):Pg L i (Jj p A)∧Pg L (i+ln A) (Jj (p+(BZ A).length) B):=by
 rw[Ow]at h
 have:=h.app
 rwa [LN]at this
theorem Uv(T:List Tk): ∀(k i:Nat),Jj i (List.replicate k (.b 32)++T)=Jj (i+k) T
 |0,i=>rfl
 |k+1,i=>by rw[List.replicate_succ,List.cons_append,Jj,Uv T k];congr 1;omega
theorem Sn{L:List LR}{w:LR}{k:Int}{t:ByteArray}(hw:Aw w k t=true)(n:Int){i:Nat}{Y:List LR}(h:LS L i (BS (DN w n)++Y))(hY:Aw (Af L (i+ln (DN w n))) k t=false):opN L k t i=.ok (n,i+ln (DN w n))∧LS L (i+ln (DN w n)) Y:=by
 refine⟨?_,h.app.2⟩
 unfold opN
 by_cases hn:n=0
 ·have e:ln (DN w n)=0:=by simp[DN,hn,ln,BS]
  rw[e,Nat.add_zero]at hY⊢
  rw[if_neg (by rw[hY];simp),hn]
  rfl
 ·have e:BS (DN w n)=[w,Mq n]:=by simp[DN,hn,BS]
  have e2:ln (DN w n)=2:=by rw[ln,e];rfl
  rw[e]at h
  obtain⟨a1,a2⟩:=h.hd
  obtain⟨b1,b2⟩:=a2.hd
  rw[e2,B4 a1,if_pos hw,(Bb b1).1,(Bb b1).2.2]
  rfl
theorem Si{L:List LR}{i:Nat}{w:LR}{n:Int}{Y:List LR}{k:Int}{t:ByteArray}(h:LS L i (BS (DN w n)++Y))(hw:Aw w k t=false)(hY:LS L i Y→Aw (Af L i) k t=false):Aw (Af L i) k t=false:=by
 by_cases hn:n=0
 ·have e:BS (DN w n)=[]:=by simp[DN,hn,BS]
  rw[e]at h
  exact hY h
 ·have e:BS (DN w n)=[w,Mq n]:=by simp[DN,hn,BS]
  rw[e]at h
  rw[B4 h.hd.1,hw]
theorem Nj(u:Fu):BS (FD u)=BS (DN (Cb ⟨#[43]⟩) u.fx)++(BS (DN (C4 FB) u.mn)++(BS (DN (C4 FA) u.mx)++[Cb ⟨#[59]⟩])):=by simp only[FD,DA,BS]
theorem mP{s:ByteArray}{L:List LR}{u:Fu}{j:Nat}{b:Int}(hc:DE (Af L j)=true)(hk:(Af L (j+1)).k=2)(hp:Aw (Af L (j+2)) 4 ⟨#[37]⟩=true)(hx:Ux (s.extract (CR L (j+1)) (CR L (j+2)+1)).toList=some b)(ho:LS L (j+3) (BS (FD u))):fuT s L j=.ok ((b,u.fx,u.mn,u.mx),j+3+ln (FD u)):=by
 rw[Nj]at ho
 have eln:ln (FD u)=ln (DN (Cb ⟨#[43]⟩) u.fx)+(ln (DN (C4 FB) u.mn)+(ln (DN (C4 FA) u.mx)+1)):=by simp only[ln,Nj,List.length_append,List.length_cons,List.length_nil]
 have hsm: ∀{i:Nat} {k:Int} {t:ByteArray},Aw (Cb ⟨#[59]⟩) k t=false→LS L i [Cb ⟨#[59]⟩]→Aw (Af L i) k t=false:=fun h a=>by rw[B4 a.hd.1,h]
 have m1:Aw (C4 FB) 4 ⟨#[43]⟩=false:=by simp[Aw,C4]
 have m2:Aw (C4 FA) 4 ⟨#[43]⟩=false:=by simp[Aw,C4]
 have m3:Aw (Cb ⟨#[59]⟩) 4 ⟨#[43]⟩=false:=by simp[Aw,Cb,ml]
 have m4:Aw (C4 FA) 1 FB=false:=by simp[Aw,C4,ml,FB,FA]
 have m5:Aw (Cb ⟨#[59]⟩) 1 FB=false:=by simp[Aw,Cb]
 have m6:Aw (Cb ⟨#[59]⟩) 1 FA=false:=by simp[Aw,Cb]
 obtain⟨o1,p1⟩:=Sn (Of ⟨#[43]⟩) u.fx ho (Si ho.app.2 m1 fun h=>Si h m2 (hsm m3))
 obtain⟨o2,p2⟩:=Sn (Og FB) u.mn p1 (Si p1.app.2 m4 (hsm m5))
 obtain⟨o3,p3⟩:=Sn (Og FA) u.mx p2 (hsm m6 p2.app.2)
 have hsc:Aw (Af L (j+3+ln (DN (Cb ⟨#[43]⟩) u.fx)+ln (DN (C4 FB) u.mn)+ln (DN (C4 FA) u.mx))) 4 ⟨#[59]⟩=true:=by rw[B4 p3.hd.1];exact Of _
 unfold fuT
 rw[if_neg (by rw[hc];simp),if_neg (by rw[hk];simp),if_neg (by rw[hp];simp),hx]
 simp only[o1,o2,o3]
 rw[if_neg (by rw[hsc];simp),eln]
 simp only[Except.ok.injEq,Prod.mk.injEq,true_and]
 omega
theorem Qb{s:ByteArray}{a w r:List UInt8}(h:s.toList=a++(w++r)){i j:Nat}(hi:i=a.length)(hj:j=a.length+w.length):s.extract i j=bs w:=by
 subst hi;subst hj
 apply DD
 rw[RY (w:=w) (r:=r) (by rw[h,List.drop_left]),Ar]
theorem jR{u:Fu}(hn:HQ u.nm=true)(hw:Kw u=true)(hl:(EJ u).length≤4000):PfO (bs (EJ u)) 0 0 [u]:=by
 obtain⟨w1,w2,w3,w4,w5,w6⟩:=Jh hw
 have hwx:=Kb _ w1
 have hpl:BM (bs (EJ u))=bs (BZ (Oj u (DT u.bps).length)):=by unfold BM;rw[Ar,Uw hn hw]
 have hlen:(BZ (Oj u (DT u.bps).length)).length=(EJ u).length:=by rw[←Uw hn hw,LO]
 obtain⟨K,k1,k2⟩:=X9 (Oj u (DT u.bps).length) (Sc hn hw _) (by omega)
 rw[←hpl]at k1
 have h0:(AG (BM (bs (EJ u)))).1=0:=by rw[k1]
 obtain⟨L,hL⟩: ∃L,(AG (BM (bs (EJ u)))).2.2=L:=⟨_,rfl⟩
 have hLK:L=K++[DS (BM (bs (EJ u)))]:=by rw[←hL,k1,hpl]
 have hA:=Pg.of hLK k2
 have hkl:K.length=ln (Oj u (DT u.bps).length):=by rw[←LN _ 0,←k2,List.length_map]
 have hend:(Af L (ln (Oj u (DT u.bps).length))).k=0:=by
  rw[Eo (x:=DS (BM (bs (EJ u)))) (by rw[hLK,←hkl,List.getElem?_append_right (Nat.le_refl _)];simp)]
  rfl
 have hlL:L.length=ln (Oj u (DT u.bps).length)+1:=by rw[hLK,List.length_append,hkl];rfl
 -- where they lie
 have eln:ln (Oj u (DT u.bps).length)=3+(ln (kX u.w)+(2+(1+ln (FD u)))):=by
  have e: ∀k:Nat,BS (List.replicate k (.b 32))=[]:=fun k=>by
   induction k with
   |zero=>rfl
   |succ k ih=>simp only[List.replicate_succ,BS,ih]
  simp only[ln,Oj,DA,List.length_append,Hy,GL,F0,BS,e,List.length_cons,List.length_nil]
  omega
 unfold Oj at hA
 obtain⟨A1,A2⟩:=hA.ap
 obtain⟨A3,A4⟩:=A2.ap
 obtain⟨A5,A6⟩:=A4.ap
 rw[Uv,FP]at A6
 rw[FP]at A5
 have l1:ln (Hy u)=3:=rfl
 have l2:ln (GL u)=2:=rfl
 rw[l1,Nat.zero_add]at A2 A3 A4 A5 A6
 rw[l2]at A6
 rw[Nat.zero_add]at A3 A5 A6
 obtain⟨p1,hp1⟩: ∃p1,(BZ (Hy u)).length=p1:=⟨_,rfl⟩
 rw[hp1]at A3 A5 A6
 obtain⟨j,hj⟩: ∃j,3+ln (kX u.w)=j:=⟨_,rfl⟩
 rw[hj]at A5 A6
 simp only[F0,Jj]at A6
 obtain⟨⟨q1,q2⟩,q3⟩:=A6.hd
 simp only[GL,Jj]at A5
 obtain⟨⟨r1,r2⟩,A5'⟩:=A5.hd
 obtain⟨⟨r3,r4⟩,_⟩:=A5'.hd
 have K1:=A1.key
 simp only[Hy,BS]at K1
 obtain⟨c1,K1⟩:=K1.hd
 obtain⟨c2,K1⟩:=K1.hd
 obtain⟨c3,_⟩:=K1.hd
 obtain⟨y,l,hy⟩:=(mz hwx).2
 have A3':=A3
 rw[hy]at A3'
 simp only[Jj]at A3'
 have hat3:CR L 3=p1:=A3'.hd.1.2
 -- the texts
 have hlt:(bs (EJ u)).toList=BZ (Hy u)++(tX u.w++(BZ (GL u)++(DT u.bps++BZ (F0 u)))):=by rw[Ar];rfl
 have hplt:(BM (bs (EJ u))).toList=BZ (Hy u)++(tX u.w++(BZ (GL u)++(List.replicate (DT u.bps).length 32++BZ (F0 u)))):=by rw[hpl,Ar,L4]
 have hcol:DE (Af L j)=true:=by unfold DE;rw[B4 r1];exact Of _
 have hexJ:exJ L 3=j:=by
  unfold exJ
  refine Lr _ _ _ (by omega) (by omega) (fun m h1 h2=> ?_) (.inr hcol)
  have hm:m - 3<(BS (kX u.w)).length:=by have:ln (kX u.w)=(BS (kX u.w)).length:=rfl;omega
  have hk:=A3.key (m - 3) _ (List.getElem?_eq_getElem hm)
  rw[show 3+(m - 3)=m by omega]at hk
  have:=(mz hwx).1 _ (List.getElem_mem hm)
  rw[(Bb hk).1,Oi hk]
  exact⟨this.1,this.2.1⟩
 have hexS:SC (BM (bs (EJ u))) L 0=bs (tX u.w):=by
  unfold SC
  rw[Nat.zero_add,hexJ,hat3,r2]
  exact Qb hplt hp1.symm (by rw[hp1])
 have hpxo:PxO (SC (BM (bs (EJ u))) L 0) 0 0 u.w:=by
  rw[hexS]
  refine bc w1 ?_
  have:=congrArg List.length (show EJ u=_ from rfl)
  rw[EJ]at hl
  simp only[List.length_append]at hl
  omega
 have fcol:(Ad (Cb ⟨#[58]⟩)).length=1:=by simp[Bo,ml]
 have hnum:(BZ (GL u)).length=2+(Lib.itoa (u.bps / 100)).length:=by simp only[GL,BZ,Bo,EA,ml,List.length_append,List.length_cons,List.length_nil];omega
 have hpc:Ux ((bs (EJ u)).extract (CR L (j+1)) (CR L (j+2)+1)).toList=some u.bps:=by
  rw[q2,r4,fcol]
  have e:(bs (EJ u)).toList=(BZ (Hy u)++(tX u.w++[58,32]))++(Nw u.bps++BZ (FD u)):=by
   rw[hlt]
   simp only[GL,F0,BZ,Bo,EA,ml,Nw,DT]
   simp
  have hpl2:(Nw u.bps).length=(Lib.itoa (u.bps / 100)).length+((DT u.bps).length+1):=by simp only[Nw,DT,List.length_append,List.length_cons,List.length_nil]
  rw[Qb e (by simp only[List.length_append,List.length_cons,List.length_nil];omega) (by simp only[List.length_append,List.length_cons,List.length_nil];omega),Ar]
  exact rA w2 w3
 have hfuT:=mP (s:=bs (EJ u)) (b:=u.bps) hcol (by rw[(Bb r3).1];rfl) (by rw[B4 q1];exact Of _) hpc (by have:=Pg.key q3;exact this)
 have hfuH:Mo L [] 0=none:=by
  have i0:Aw (Af L 0) 1 F2=true:=by rw[B4 c1];exact Og _
  have i2:Aw (Af L (0+2)) 1 ⟨#[119,104,101,110]⟩=true:=by rw[B4 c3];exact Og _
  have i1:LJ (Af L (0+1))=true:=by
   rw[aS c2]
   unfold HQ at hn
   simp only[Bool.and_eq_true]at hn
   simp[LJ,C4,hn.1]
  unfold Mo
  rw[if_neg (by simp),if_neg (by rw[i0];simp),if_neg (by rw[i1];simp),if_neg (by simp[Cn]),if_neg (by rw[i2];simp)]
 have hO:FuO (bs (EJ u)) (BM (bs (EJ u))) L [] 0 u (j+3+ln (FD u)):=by
  have:=FuO.ok hfuH hpxo (by rw[Nat.zero_add,hexJ];exact hfuT)
  rw[(Bb c2).2.1]at this
  exact this
 refine .ok h0 (hL▸FlO.step ?_ hO (.fin ?_))
 ·rw[(Bb c1).1];decide
 ·rw[show j+3+ln (FD u)=ln (Oj u (DT u.bps).length) by omega]
  exact hend
set_option maxHeartbeats 2000000
set_option maxRecDepth 20000
theorem QN(nm:ByteArray)(a:List Fu)(u:Fu):Cn nm (a++[u])=(Cn nm a||decide (u.nm.toList=nm.toList)):=by simp[Cn]
def pU(us:List Fu):Prop:= ∀u∈us,HQ u.nm=true∧Kw u=true
theorem eA: ∀(vs us ws:List Fu),pU vs→FF us vs=.ok ws→H9 us vs=true
 | [],us,ws,_,_=>rfl
 |v::vs,us,ws,ha,h=>by
  simp only[FF]at h
  split at h
  ·cases h
  split at h
  ·cases h
  rename_i h1
  have h1':Cn v.nm us=false:=by simpa using h1
  obtain⟨a1,a2⟩:=ha v (by simp)
  simp only[H9,Mz,a1,a2,h1',Bool.true_and,Bool.not_false]
  exact eA vs _ ws (fun u hu=>ha u (by simp[hu])) h
theorem VR: ∀(vs us:List Fu),us.length+vs.length≤64→H9 us vs=true→pU vs∧FF us vs=.ok (us++vs)
 | [],us,_,_=>⟨fun u hu=>by simp at hu,by simp[FF]⟩
 | v::vs,us,hl,h=>by
  simp only[H9,Mz,Bool.and_eq_true,Bool.not_eq_true']at h
  obtain⟨⟨h1,h2,h3⟩,h4⟩:=h
  simp only[List.length_cons]at hl
  obtain⟨i1,i2⟩:=VR vs (us++[v]) (by simp;omega) h4
  refine⟨fun u hu=> ?_, ?_⟩
  ·rcases List.mem_cons.1 hu with rfl|hu
   ·exact⟨h1,h3⟩
   ·exact i1 u hu
  ·simp only[FF]
   rw[if_neg (by omega),if_neg (by rw[h2];simp),i2]
   simp
theorem d9(vs:List Fu): ∀(us ws:List Fu),(∀nm,Cn nm us=true→Cn nm ws=true)→H9 ws vs=true→H9 us vs=true:=by
 induction vs with
 |nil=>intro _ _ _ _;rfl
 | cons v vs ih=>
  intro us ws hs h
  simp only[H9,Mz,Bool.and_eq_true,Bool.not_eq_true']at h⊢
  obtain⟨⟨h1,h2,h3⟩,h4⟩:=h
  refine⟨⟨h1, ?_,h3⟩,ih (us++[v]) (ws++[v]) (fun nm hn=> ?_) h4⟩
  ·cases hc:Cn v.nm us with
   |false=>rfl
   |true=>rw[hs _ hc]at h2;cases h2
  ·rw[QN,Bool.or_eq_true]at hn⊢
   exact hn.imp (hs nm) id
theorem nN:PfO (bs []) 0 0 []:=bP (b:=[]) rfl rfl (by decide)
theorem Uu: ∀(us:List Fu),us.length≤64→H9 [] us=true→(E8 us).length≤4000→PfO (bs (E8 us)) 0 0 us
 | [],_,_,_=>nN
 | u::us,h64,h,hl=>by
  simp only[List.length_cons]at h64
  obtain⟨a1,a2⟩:=VR (u::us) [] (by simp;omega) h
  have hlt:E8 (u::us)=EJ u++10::E8 us:=by simp[E8,List.flatMap_cons,Z6]
  rw[hlt,List.length_append,List.length_cons]at hl
  have hr:FF [u] us=.ok (u::us):=by
   simp only[FF,List.length_nil,Cn,List.any_nil]at a2
   simpa using a2
  have h2:=Uu us (by omega) (d9 us [] [u] (fun nm hn=>by simp[Cn]at hn) (by
   simp only[H9,Bool.and_eq_true]at h
   exact h.2)) (by omega)
  have h1:=jR (a1 u (by simp)).1 (a1 u (by simp)).2 (by omega)
  exact(qy (r:=bs (E8 (u::us))) (by rw[Ar,Ar,Ar,hlt]) (by rw[Ab,hlt,List.length_append,List.length_cons];omega) h1 h2).1 _ hr
theorem iK{us:List Fu}(h:ov us=true)(hl:(Gw us).length≤4000):PfO (bs (Gw us)) 0 0 us:=by
 have hw:=h
 unfold ov at h
 simp only[Bool.and_eq_true,decide_eq_true_eq]at h
 unfold Gw at hl⊢
 rw[if_pos hw]at hl⊢
 exact Uu us h.1 h.2 hl
theorem jT(s:List UInt8):0≤(Ny s).1∧(Ny s).1≤10000:=by
 unfold Ny
 repeat' split
 all_goals first
  |exact⟨by decide,by decide⟩
  |exact⟨by simp only;omega,by simp only;omega⟩
theorem Uy{s:List UInt8}{b:Int}(h:Ux s=some b):0≤b∧b≤10000:=by
 unfold Ux at h
 split at h
 ·simp only[Option.some.injEq]at h;rw[←h];exact jT s
 ·cases h
theorem bJ{L:List LR}(hL:Tz L){k:Int}{w:ByteArray}{i j:Nat}{v:Int}(h:opN L k w i=.ok (v,j)):J2 v=true:=by
 unfold opN at h
 split at h
 ·split at h
  ·rename_i h2
   cases h
   have:=PY (hL (i+1)) h2
   simp[J2,this.1,this.2]
  ·cases h
 ·cases h;rfl
theorem qS{s:ByteArray}{L:List LR}(hL:Tz L){j k:Nat}{b fx mn mx:Int}(h:fuT s L j=.ok ((b,fx,mn,mx),k)):0≤b∧b≤10000∧J2 fx=true∧J2 mn=true∧J2 mx=true:=by
 unfold fuT at h
 split at h
 ·cases h
 split at h
 ·cases h
 split at h
 ·cases h
 split at h
 ·cases h
 rename_i hb
 split at h
 ·cases h
 rename_i h1
 split at h
 ·cases h
 rename_i h2
 split at h
 ·cases h
 rename_i h3
 split at h
 ·cases h
 ·cases h
  have:=Uy hb
  exact⟨this.1,this.2,bJ hL h1,bJ hL h2,bJ hL h3⟩
theorem qQ{s pl:ByteArray}{L:List LR}(hL:Tz L){us:List Fu}{i k:Nat}{u:Fu}(h:FuO s pl L us i u k):HQ u.nm=true∧Kw u=true∧(tX u.w).length≤600000:=by
 cases h with
 | ok h1 h2 h3=>
  obtain⟨w1,w2⟩:=rC h2
  obtain⟨b1,b2,b3,b4,b5⟩:=qS hL h3
  refine⟨?_,by simp[Kw,w1,b1,b2,b3,b4,b5],w2⟩
  unfold Mo at h1
  split at h1
  ·cases h1
  split at h1
  ·cases h1
  split at h1
  ·cases h1
  rename_i q
  have q':LJ (Af L (i+1))=true:=by simpa using q
  unfold LJ at q'
  simp only[Bool.and_eq_true,decide_eq_true_eq]at q'
  have hwf:JG (Af L (i+1)):=by
   rcases hL (i+1)with h|h
   ·exact h
   ·rw[h]at q';exact absurd q'.1 (by decide)
  simp only[HQ,q'.2,RU hwf q'.1,Bool.and_self]
theorem qJ{s pl:ByteArray}{L:List LR}(hL:Tz L){us vs:List Fu}{i j:Nat}(h:FlO s pl L us i vs j):(∀u∈us,HQ u.nm=true∧Kw u=true∧(tX u.w).length≤600000)→ ∀u∈vs,HQ u.nm=true∧Kw u=true∧(tX u.w).length≤600000:=by
 induction h with
 |fin _=>exact id
 |step h1 h2 h3 ih=>
  intro ha
  refine ih fun u hu=> ?_
  rcases List.mem_append.1 hu with h|h
  ·exact ha u h
  ·rw[List.mem_singleton.1 h];exact qQ hL h2
theorem bQ{s:ByteArray}{a:Nat}{us:List Fu}(h:PfO s 0 a us):ov us=true∧us.length≤64∧ ∀u∈us,HQ u.nm=true∧Kw u=true∧(tX u.w).length≤600000:=by
 obtain⟨r1,r2⟩:=jS h
 obtain⟨h0,_,j,h1⟩:=h.ok_inv
 have hA:=qJ (Jz h0) h1 (fun u hu=>by simp at hu)
 refine⟨?_,r2,hA⟩
 unfold ov
 rw[eA us [] us (fun u hu=>⟨(hA u hu).1,(hA u hu).2.1⟩) r1]
 simp[r2]
set_option maxHeartbeats 4000000
set_option maxRecDepth 20000
theorem En(k:ByteArray)(v:Value)(m:HN)(s:ByteArray):EO ((k,v)::m) s=if s=k then some v else EO m s:=by
 unfold EO
 simp only[GN]
 by_cases h:s=k
 ·rw[if_pos h,if_pos h];rfl
 ·rw[if_neg h,if_neg h];cases GN m s<;>rfl
theorem dq(s:ByteArray)(v:Value):K5 [] s v=[(s,v)]:=rfl
theorem YA(k:ByteArray)(u:Value)(m:HN)(s:ByteArray)(v:Value):K5 ((k,u)::m) s v=if s=k then(s,v)::m else(k,u)::K5 m s v:=by
 unfold K5
 simp only[GN]
 by_cases h:s=k
 ·rw[if_pos h,if_pos h];rfl
 ·rw[if_neg h,if_neg h];cases GN m s<;>rfl
theorem WZ(m:HN)(s t:ByteArray)(v:Value):EO (K5 m s v) t=if t=s then some v else EO m t:=by
 induction m with
 |nil=>rw[dq,En]
 | cons p m ih=>
  obtain⟨k,u⟩:=p
  rw[YA]
  by_cases h:s=k
  ·subst h;rw[if_pos rfl,En,En];split<;>rfl
  ·rw[if_neg h,En,En,ih]
   by_cases h1:t=k
   ·rw[if_pos h1,if_pos h1,if_neg (fun e=>h (by rw[←e,h1]))]
   ·rw[if_neg h1,if_neg h1]
theorem dl:Tryz.prog.underlying 57=some (.map 9 4):=by kernel_rfl
theorem dm:Tryz.prog.underlying 9=some .string:=by kernel_rfl
theorem Rl{a b:ByteArray}:a.toList=b.toList↔a=b:=by
 rw[ByteArray.toList_eq,ByteArray.toList_eq]
 exact⟨fun h=>Ed h,fun h=>by rw[h]⟩
theorem nH(n:Int):Nw n≠[]:=by unfold Nw;simp
theorem Us{n:Int}(h0:0≤n)(h1:n≤10000):(Nw n).length≤70:=by
 have l1:=FO (n:=n / 100) (by omega) (by omega)
 have l2:=FO (n:=n % 100 / 10) (by omega) (by omega)
 have l3:=FO (n:=n % 10) (by omega) (by omega)
 unfold Nw
 split
 ·simp only[List.length_append,List.length_cons,List.length_nil];omega
 ·split
  ·simp only[List.length_append,List.length_cons,List.length_nil];omega
  ·simp only[List.length_append,List.length_cons,List.length_nil];omega
theorem oL{t:Xs}(h:wX t=true):(tX t=[])=False:=eq_false (rU h)
def YM(u:Fu):List (ByteArray×Int):=[(⟨#[43]⟩,u.fx),(⟨#[109,105,110]⟩,u.mn),(⟨#[109,97,120]⟩,u.mx)]
def ue(r:ByteArray×Int):List Value:=[.string r.1,.int .i64 r.2]
def Sp:List (ByteArray×Int)→Option (List UInt8)
 | []=>some []
 |(w,n)::l=>if J2 n=true then(Sp l).map fun r=>F3 w.toList n++r else none
def NA(l:List (ByteArray×Int))(t:List UInt8):List UInt8:=match Sp l with
 |none=>[]
 |some r=>t++r++[59,10]
theorem G9{w:ByteArray}{n:Int}{l:List (ByteArray×Int)}{t:List UInt8}(h:J2 n=false):NA ((w,n)::l) t=[]:=by
 unfold NA Sp
 rw[if_neg (by rw[h];simp)]
theorem HL{w:ByteArray}{n:Int}{l:List (ByteArray×Int)}{t:List UInt8}(h:J2 n=true):NA ((w,n)::l) t=NA l (t++F3 w.toList n):=by
 unfold NA
 rw[Sp,if_pos h]
 cases Sp l with
 |none=>rfl
 |some r=>simp
theorem jO{u:Fu}(hx:wX u.w=true)(h0:0≤u.bps)(h1:u.bps≤10000):(if Kw u=true then HR u else [])=NA (YM u) (G1 u):=by
 unfold YM
 cases a:J2 u.fx with
 |false=>rw[G9 a,if_neg (by simp[Kw,a])]
 | true=>
  rw[HL a]
  cases b:J2 u.mn with
  |false=>rw[G9 b,if_neg (by simp[Kw,b])]
  | true=>
   rw[HL b]
   cases c:J2 u.mx with
   |false=>rw[G9 c,if_neg (by simp[Kw,c])]
   |true=>
    rw[HL c,if_pos (by simp[Kw,a,b,c,hx,h0,h1])]
    simp[NA,Sp,HR,ml]
theorem rF(a b c d e f:Value):BP Tryz.prog 103 3 [(0,.agg #[a,b]),(1,.agg #[c,d]),(2,.agg #[e,f])]=some (102,#[a,b,c,d,e,f]):=by kernel_rfl
theorem ji(A:AH)(hT:Dv A)(u:Fu)(r:Xr)(r2:ExR A u.w r)(hz:SzX u.w)(hl:(Ra u.w).length≤100000000)(hn:u.nm.size≤100000000):AK Tryz.prog 16 #[.agg #[.string u.nm,.int .i64 r.op,.string r.nm,.string r.tx,.int .i64 r.n,.slice r.p r.len r.cap,.int .i64 u.bps,.int .i64 u.fx,.int .i64 u.mn,.int .i64 u.mx]] A (fun u_ A_=>u_=.string (bs (if Kw u=true then HR u else []))∧SubA A A_):=by
 refine AC ⟨Tryz.prog,16,Tryz.f16,70,[0,1,2,3,4,5,6,8,40,41,42],⟨[],none⟩,[(1,.q false),(12,.q false)],_⟩ rfl (args:=[_]) Tryz.func16 rfl (by kernel_rfl) Tryz.ntmps16 (by simp) (by kernel_rfl) ?_
 intro ν fr;have nuE:=fr.nu
 have f0:=fr.2 0
 have f1:=fr.2 1
 have n01:(ν 1=ν 0)=False:=by simp[nuE]
 have ev:=fun o=>qC A hT u.w r r2 hz (by omega) ((ν 0,o)::A) (SubA.fresh f0 (SubA.refl _))
 have pv:=fun o=>nL A hT u.bps ((ν 0,o)::A) (SubA.fresh f0 (SubA.refl _))
 cases hw:wX u.w with
 |false=>
  have he:Ra u.w=[]:=by unfold Ra;rw[hw];rfl
  rw[he]at ev
  simp only[AF,↓AE,simprocAttr,fr.2,ev,pv,Ar]
  have:Kw u=false:=by simp[Kw,hw]
  rw[this];rfl
 |true=>
 have he:Ra u.w=tX u.w:=by unfold Ra;rw[hw];rfl
 rw[he]at ev hl
 by_cases hb:0≤u.bps∧u.bps≤10000
 rotate_left
 ·have hp:nG u.bps=[]:=if_pos (by omega)
  rw[hp]at pv
  simp only[AF,↓AE,simprocAttr,fr.2,ev,pv,Ar]
  have:Kw u=false:=by
   simp only[Kw,Bool.and_eq_false_iff,decide_eq_false_iff_not];omega
  rw[this];rfl
 have hp:nG u.bps=Nw u.bps:=if_neg (by omega)
 have hpn:(Nw u.bps=[])=False:=eq_false (nH _)
 have hpl:=Us hb.1 hb.2
 have LL:=AP u.nm
 rw[hp]at pv
 rw[jO hw hb.1 hb.2]
 simp only[AF,↓AE,simprocAttr,fr.2,ev,pv,Ar,oL hw,hpn,rF]
 have hnl:u.nm.data.toList.length=u.nm.size:=rfl
 refine⟨?_, ?_, ?_, ?_, ?_, ?_⟩
 ·simp only[lz,List.size_toArray,List.length_cons,List.length_nil];omega
 ·simp only[ByteArray.size_append,lz,List.size_toArray,List.length_cons,List.length_nil];omega
 ·simp only[ByteArray.size_append,Ab,lz,List.size_toArray,List.length_cons,List.length_nil];omega
 ·simp only[ByteArray.size_append,Ab,lz,List.size_toArray,List.length_cons,List.length_nil];omega
 ·simp only[ByteArray.size_append,Ab,lz,List.size_toArray,List.length_cons,List.length_nil];omega
 have hT5:((⟨#[102,101,101,32]⟩:ByteArray)++u.nm++⟨#[32,119,104,101,110,32]⟩++bs (tX u.w)++⟨#[58,32]⟩++bs (Nw u.bps))=bs (G1 u):=Ed (by simp[bs,G1,ByteArray.toList_eq])
 rw[hT5]
 have hhl:(G1 u).length≤300200100:=by
  unfold G1
  simp only[List.length_append,List.length_cons,List.length_nil];omega
 have dst_:((ν 0=ν 1)=False)∧((ν 1=ν 0)=False):=(by simp[nuE]);generalize ν 0=b0 at dst_  f0 f1 n01 ⊢;generalize ν 1=ob at dst_  f0 f1 n01⊢
 clear nuE fr ev pv
 have d0:=dst_
 have n10:(b0=ob)=False:=eq_false fun h=>by rw[h]at n01;simp at n01
 have hS:B5 ue 2 [(ob,.cells #[.string ⟨#[43]⟩,.int .i64 u.fx,.string ⟨#[109,105,110]⟩,.int .i64 u.mn,.string ⟨#[109,97,120]⟩,.int .i64 u.mx] 102)] (some ⟨ob,0,none⟩) (YM u):=by
  refine .inr ⟨ob,0,_,_,_,rfl,(by simp only[Vm.AA,if_true];rfl),fun i a h=> ?_⟩
  rcases i with _|_|_|i
  ·simp only[YM,List.getElem?_cons_zero,Option.some.injEq]at h;subst h;rfl
  ·simp only[YM,List.getElem?_cons_succ,List.getElem?_cons_zero,Option.some.injEq]at h;subst h;rfl
  ·simp only[YM,List.getElem?_cons_succ,List.getElem?_cons_zero,Option.some.injEq]at h;subst h;rfl
  ·simp[YM]at h
 have hL3:(YM u).length=3:=rfl
 obtain⟨oo,hoo⟩: ∃oo,Obj.cells #[.string ⟨#[43]⟩,.int .i64 u.fx,.string ⟨#[109,105,110]⟩,.int .i64 u.mn,.string ⟨#[109,97,120]⟩,.int .i64 u.mx] 102=oo:=⟨_,rfl⟩
 rw[hoo]at hS⊢
 have sA: ∀o,SubA A ((ob,oo)::(b0,o)::A):=fun o=>SubA.trans (SubA.fresh f0 (SubA.refl _)) (SubA.fresh (AJ n10 f1) (SubA.refl _))
 clear hoo
 have hwl: ∀x∈YM u,x.1.size≤3:=by
  intro x hx
  simp only[YM,List.mem_cons,List.not_mem_nil,or_false]at hx
  rcases hx with rfl|rfl|rfl<;>exact Nat.le_of_ble_eq_true rfl
 obtain⟨e,l,t,he,hd,hle,htl,hx,ht⟩: ∃(e:Nat) (l:List (ByteArray×Int)) (t:List UInt8),e=0∧l=(YM u).drop e∧e≤3∧t.length≤300200100+100*e∧NA (YM u) (G1 u)=NA l t∧t=G1 u:=⟨0,_,_,rfl,rfl,by omega,by omega,rfl,rfl⟩
 rw[hx]
 rw[show(42,some (Value.int .i64 0))=(42,some (Value.int .i64 (e:Int))) by rw[he];rfl,←ht]
 clear he ht hT5 hhl
 induction l generalizing e t with
 |nil=>
  obtain⟨hn1,hn2⟩:=drop_nil hd hle
  have lt:((e:Int)<3)=False:=eq_false (by omega)
  refine AR.intro (by kernel_rfl) ?_
  intro ν fr
  simp only[AF,↓AE,simprocAttr,lt]
  refine⟨by simp only[Ab,lz,List.size_toArray,List.length_cons,List.length_nil];omega, ?_,sA _⟩
  have:bs t++(⟨#[59,10]⟩:ByteArray)=bs (t++[59,10]):=Ed (by simp[bs])
  rw[this]
  simp[NA,Sp]
 | cons x l ih=>
  obtain⟨w,n⟩:=x
  obtain⟨ha,hlt,hd',htk⟩:=Be hd
  have lt:((e:Int)<3)=True:=eq_true (by omega)
  have li:((e:Int)<0)=False:=eq_false (by omega)
  have we:IntKind.i64.wrap ((e:Int)+1)=((e+1:Nat):Int):=by rw[AW (by omega) (by omega)];omega
  obtain⟨bk,off,cs,ty,fr0,hp0,hbk,hcr,hcc⟩:=hS.at ha
  simp only[Option.some.injEq,Addr.mk.injEq,and_true]at hp0
  obtain⟨rfl,rfl⟩:=hp0
  simp only[Vm.AA,if_true,Option.some.injEq]at hbk
  subst hbk
  simp only[ue,B7,Nat.zero_add]at hcr
  have hwz:=hwl _ (List.mem_of_getElem? ha)
  refine AR.intro (by kernel_rfl) ?_
  intro ν fr
  have f6:=fr.2 0
  by_cases h0:n<0
  ·rw[G9 (by simp[J2];omega)]
   simp only[AF,↓AE,simprocAttr,lt,hcr,eq_true h0]
   exact⟨rfl,SubA.trans (sA _) (SubA.fresh f6 (SubA.refl _))⟩
  by_cases h1:9007199254740992<n
  ·rw[G9 (by simp[J2];omega)]
   simp only[AF,↓AE,simprocAttr,lt,hcr,eq_false h0,eq_true h1]
   exact⟨rfl,SubA.trans (sA _) (SubA.fresh f6 (SubA.refl _))⟩
  have hok:J2 n=true:=by simp[J2];omega
  rw[HL hok]
  by_cases hz0:n=0
  ·have hf:F3 w.toList n=[]:=by unfold F3;rw[if_pos hz0]
   rw[hf,List.append_nil]
   have hz0':(n !=0)=false:=by simp[hz0]
   simp only[AF,↓AE,simprocAttr,lt,hcr,eq_false h0,eq_false h1,hz0',we]
   exact AR.weak (ih (e+1) t hd' (by omega) (by omega) (by rw[hx,HL hok,hf,List.append_nil])) (by simp[Ah,AO]) (SubA.fresh f6 (SubA.refl _))
  have hf:F3 w.toList n=32::(w.toList++32::Lib.itoa n):=by unfold F3;rw[if_neg hz0]
  have hz0':(n !=0)=true:=by simp[hz0]
  have il:=FO (n:=n) (by omega) (by omega)
  have hws:=AP w
  simp only at hwz
  have fv:=fun o=>QJ A hT n (by omega) (by omega) ((ν 0,o)::_) (SubA.trans (sA _) (SubA.fresh f6 (SubA.refl _)))
  have s1:(ByteArray.size ⟨#[32]⟩+w.size≤9223372036854775807):=by simp only[lz,List.size_toArray,List.length_cons,List.length_nil];omega
  have s2:((⟨#[32]⟩++w:ByteArray).size+ByteArray.size ⟨#[32]⟩≤9223372036854775807):=by simp only[ByteArray.size_append,lz,List.size_toArray,List.length_cons,List.length_nil];omega
  have s3:((⟨#[32]⟩++w++⟨#[32]⟩:ByteArray).size+(bs (Lib.itoa n)).size≤9223372036854775807):=by simp only[ByteArray.size_append,Ab,lz,List.size_toArray,List.length_cons,List.length_nil];omega
  have s4:(⟨#[32]⟩++w++⟨#[32]⟩++bs (Lib.itoa n):ByteArray)=bs (32::(w.toList++32::Lib.itoa n)):=Ed (by simp[bs,ByteArray.toList_eq])
  have hfl:(32::(w.toList++32::Lib.itoa n)).length≤60:=by simp only[List.length_append,List.length_cons];omega
  have s5:(bs t).size+(bs (32::(w.toList++32::Lib.itoa n))).size≤9223372036854775807:=by rw[Ab,Ab];omega
  simp only[AF,↓AE,simprocAttr,lt,hcr,eq_false h0,eq_false h1,hz0',we,fv,s1,s2,s3,s4,s5,OK]
  have h9:=ih (e+1) (t++F3 w.toList n) hd' (by omega) (by rw[hf,List.length_append];omega) (by rw[hx,HL hok])
  rw[hf]at h9⊢
  exact AR.weak h9 (by simp[Ah,AO]) (SubA.fresh f6 (SubA.refl _))
theorem jk(A:AH)(hT:Dv A)(u:Fu)(r:Xr)(r2:ExR A u.w r)(hz:SzX u.w)(hl:(Ra u.w).length≤100000000)(hn:u.nm.size≤100000000)(B_:AH)(hB_:SubA A B_):Ag Tryz.prog 16 #[.agg #[.string u.nm,.int .i64 r.op,.string r.nm,.string r.tx,.int .i64 r.n,.slice r.p r.len r.cap,.int .i64 u.bps,.int .i64 u.fx,.int .i64 u.mn,.int .i64 u.mx]] B_=some (.string (bs (if Kw u=true then HR u else []))):=AX (Aj (by kernel_rfl) (ji A hT u r r2 hz hl hn) hB_)
set_option maxHeartbeats 4000000
set_option maxRecDepth 20000
theorem Oa{w:List UInt8}{n:Int}(h:J2 n=true):(F3 w n).length≤w.length+30:=by
 simp only[J2,Bool.and_eq_true,decide_eq_true_eq]at h
 have:=FO (n:=n) (by omega) (by omega)
 unfold F3
 split
 ·simp
 ·simp only[List.length_append,List.length_cons];omega
theorem Z5{u:Fu}(h:Kw u=true):(HR u).length≤(tX u.w).length+u.nm.size+300:=by
 obtain⟨w1,w2,w3,w4,w5,w6⟩:=Jh h
 have p:=Us w2 w3
 have a:=Oa (w:=[43]) w4
 have b:=Oa (w:=[109,105,110]) w5
 have c:=Oa (w:=[109,97,120]) w6
 have s:=AP u.nm
 unfold HR G1
 simp only[List.length_append,List.length_cons,List.length_nil]at a b c⊢
 omega
theorem UO(u:Fu):HR u≠[]:=by unfold HR;simp
theorem qK(A:AH)(hT:Dv A)(us:List Fu)(p:Option Addr)(cap:Nat)(hR:eV A us p)(hz: ∀u∈us,SzX u.w)(hl: ∀u∈us,(tX u.w).length≤1000000∧u.nm.size≤1000):AK Tryz.prog 7 #[.slice p us.length cap] A (fun u_ A_=>u_=.string (bs (Gw us))∧SubA A A_):=by
 refine AC ⟨Tryz.prog,7,Tryz.f7,39,[0,2,3,4,6,7,12,13,14],⟨[17,18],none⟩,[],_⟩ rfl (args:=[_]) Tryz.func7 rfl (by kernel_rfl) Tryz.ntmps7 (by simp) (by kernel_rfl) ?_
 intro ν fr;have nuE:=fr.nu
 obtain⟨rs,hrl,hS,hall⟩:=hR
 by_cases h64:us.length≤64
 rotate_left
 ·have g64:(64<(us.length:Int))=True:=eq_true (by omega)
  have hf:Gw us=[]:=by unfold Gw ov;rw[if_neg (by simp[h64])]
  rw[hf]
  simp only[AF,↓AE,simprocAttr,g64]
  rfl
 have g64:(64<(us.length:Int))=False:=eq_false (by omega)
 have f0:=fr.2 0
 have f1:=fr.2 1
 have n01:(ν 1=ν 0)=False:=by simp[nuE]
 simp only[AF,↓AE,simprocAttr,g64]
 have dst_:((ν 0=ν 1)=False)∧((ν 1=ν 0)=False):=(by simp[nuE]);generalize ν 0=b at dst_  f0 f1 n01 ⊢;generalize ν 1=mb at dst_  f0 f1 n01⊢
 clear nuE fr g64
 have d0:=dst_
 obtain⟨e,l,es,cl,m,E,he,hd,hle,hE,dE,fm,hm,hlk,hx,hbd,hes,hcl,hEE⟩: ∃(e:Nat) (l:List Fu) (es:Array MapEntry) (cl:Nat) (m:HN) (E:AH),e=0∧l=us.drop e∧e≤us.length∧ED E b (E8 (us.take e))∧Dis E A∧Vm.AA (E++A) mb=none∧DK es m∧(∀k,EO m k=if Cn k (us.take e)=true then some (.bool true)else none)∧Gw us=(if H9 (us.take e) l=true then E8 us else [])∧(E8 (us.take e)).length≤1002000*e∧es= #[]∧cl=0∧E=[(b,.cells #[.pointer none,.slice none 0 0] 56)]:=
  ⟨0,_,_,_,[],_,rfl,rfl,by omega,ED.new b,Dis.one f0,AJ d0.1 f1,DK.nil,fun k=>rfl,by unfold Gw ov;simp[h64],by simp[E8],rfl,rfl,rfl⟩
 rw[show(14,some (Value.int .i64 0))=(14,some (Value.int .i64 (e:Int))) by rw[he];rfl]
 refine AR.at (A:=(mb,.map es cl)::(E++A)) (by rw[hes,hcl,hEE];exact SubA.refl _) ?_
 clear he hes hcl hEE f0 f1 n01
 induction l generalizing e es cl m E with
 |nil=>
  obtain⟨hn1,hn2⟩:=drop_nil hd hle
  have lt:((e:Int)<(us.length:Int))=False:=eq_false (by omega)
  rw[hn2]at hE
  rw[hn2]at hbd
  rw[hx]
  refine AR.intro (by kernel_rfl) ?_
  intro ν fr
  simp only[AF,↓AE,simprocAttr,lt]
  refine AK.useX (Pl E b _ hE (by omega)) (SubA.trans (SubA.left E A) (SubA.fresh fm (SubA.refl _))) A (SubA.trans dE.right (SubA.fresh fm (SubA.refl _))) dE ?_
  rintro v D ⟨rfl,hdom⟩ dD
  refine⟨[],SubA.nil _, ?_⟩
  rw[List.nil_append]
  clear fr
  intro ν fr
  simp only[AF,↓AE,simprocAttr]
  rfl
 | cons u l ih=>
  obtain⟨ha,hlt,hd',htk⟩:=Be hd
  have lt:((e:Int)<(us.length:Int))=True:=eq_true (by omega)
  have li:((e:Int)<0)=False:=eq_false (by omega)
  have we:IntKind.i64.wrap ((e:Int)+1)=((e+1:Nat):Int):=by rw[AW (by omega) (by omega)];omega
  obtain⟨r,hr⟩: ∃r,rs[e]? =some r:=⟨_,List.getElem?_eq_getElem (by omega)⟩
  obtain⟨bk,off,cs,ty,fr0,hp0,hbk,hcr,hcc⟩:=hS.at hr
  subst hp0
  obtain⟨hr1,hrw,hr3,hr4,hr5,hr6⟩:=hall e u r ha hr
  simp only[JY,hr1,hr3,hr4,hr5,hr6]at hcr
  have hbkE:=dE.right _ _ hbk
  obtain⟨q1,q2⟩:=AU fm hbkE
  have hpush:E8 (us.take (e+1))=E8 (us.take e)++HR u:=by rw[htk];simp[E8]
  have bad:Mz (us.take e) u=false→Gw us=[]:=fun h=>by rw[hx];simp[H9,h]
  have sA:SubA A ((mb,.map es cl)::(E++A)):=SubA.trans dE.right (SubA.fresh fm (SubA.refl _))
  obtain⟨hl1,hl2⟩:=hl u (List.mem_of_getElem? ha)
  refine AR.intro (by kernel_rfl) ?_
  intro ν fr;have nuE:=fr.m1 rfl
  have f6:=fr.2 0
  have lk:=fun o=>GO (s:=u.nm) (A:=(ν 0,o)::(mb,.map es cl)::(E++A)) (ok:=false) (es:=es) (cl:=cl) (r:=mb) dl dm uZ (by simp[Vm.AA,nuE]) hm
  rw[hlk u.nm]at lk
  cases hnm:HQ u.nm with
  |false=>
   have hnm':(!(kr u.nm)&&Bp u.nm)=false:=hnm
   simp only[AF,↓AE,simprocAttr,oX,lt,hbkE,q1,hcr,hnm']
   rw[bad (by simp[Mz,hnm])]
   exact⟨rfl,SubA.trans sA (SubA.fresh f6 (SubA.refl _))⟩
  |true=>
  have hnm':(!(kr u.nm)&&Bp u.nm)=true:=hnm
  cases hh:Cn u.nm (us.take e)with
  |true=>
   simp only[hh,if_true,Option.getD_some,Bool.false_eq_true,if_false]at lk
   simp only[AF,↓AE,simprocAttr,oX,lt,hbkE,q1,hcr,hnm',lk]
   rw[bad (by simp[Mz,hh])]
   exact⟨rfl,SubA.trans sA (SubA.fresh f6 (SubA.refl _))⟩
  |false=>
  simp only[hh,if_false,Option.getD_none,Bool.false_eq_true]at lk
  simp only[AF,↓AE,simprocAttr,oX,lt,hbkE,q1,hcr,hnm',lk]
  have dst_:((ν 0=mb)=False)∧((mb=ν 0)=False):=(by simp[nuE]);generalize ν 0=n6 at dst_  f6⊢
  clear nuE fr lk
  have d6:=dst_
  refine N0 (es:=es) (cl:=cl) (r:=mb) dl dm (by simp[Vm.AA,d6]) hm ?_
  intro es' cl' hm'
  simp only[Dw,d6,if_false,if_true]
  intro ν fr
  have g6:Vm.AA (E++A) n6=none:=by simpa[Vm.AA,d6]using f6
  have f6':Vm.AA ((mb,.map es' cl')::(E++A)) n6=none:=AJ (by simp[d6]) g6
  have sA':SubA A ((mb,.map es' cl')::(E++A)):=SubA.trans dE.right (SubA.fresh fm (SubA.refl _))
  have hex:(Ra u.w).length≤100000000:=by
   unfold Ra;split
   ·omega
   ·simp
  have rv:=fun o=>jk A hT u r.w hrw (hz u (List.mem_of_getElem? ha)) hex (by omega) ((n6,o)::(mb,.map es' cl')::(E++A)) (SubA.trans sA' (SubA.fresh f6' (SubA.refl _)))
  cases hw:Kw u with
  |false=>
   rw[hw]at rv
   simp only[Bool.false_eq_true,if_false]at rv
   simp only[AF,↓AE,simprocAttr,rv,Ar]
   rw[bad (by simp[Mz,hw])]
   exact⟨rfl,SubA.trans sA' (SubA.fresh f6' (SubA.refl _))⟩
  |true=>
  rw[hw]at rv
  simp only[if_true]at rv
  have hfl:=Z5 hw
  have hfn:(HR u=[])=False:=eq_false (UO u)
  have hlk': ∀k,EO (K5 m u.nm (.bool true)) k=if Cn k (us.take (e+1))=true then some (.bool true)else none:=by
   intro k
   rw[WZ,hlk k,htk,QN]
   by_cases hk:k=u.nm
   ·subst hk;simp
   ·have: ¬u.nm.toList=k.toList:=fun h=>hk (Rl.1 h).symm
    simp[hk,this]
  have hok:Mz (us.take e) u=true:=by simp[Mz,hnm,hh,hw]
  have hx':Gw us=(if H9 (us.take (e+1)) l=true then E8 us else []):=by
   rw[hx,htk]
   simp only[H9,hok,Bool.true_and]
  simp only[AF,↓AE,simprocAttr,rv,Ar,hfn]
  clear fr rv
  refine Rn (Y:=[(n6,_),(mb,_)]) (Dl E b _ _ hE (UO u) (by omega)) dE (dis2 g6 fm) ?_
  intro E4 hE4 dE4 dYE4
  simp only[List.cons_append,List.nil_append]
  intro ν fr
  simp only[AF,↓AE,simprocAttr,we]
  have k6:=dYE4 n6 (by simp[Vm.AA])
  have km:=dYE4 mb (by simp[Vm.AA,d6])
  exact AR.weak (ih (e+1) es' cl' _ E4 hd' (by omega) (by rw[hpush];exact hE4) dE4 km hm' hlk' hx' (by rw[hpush,List.length_append];omega)) (by simp[Ah,AO]) (SubA.fresh (AJ (by simp[d6]) k6) (SubA.refl _))
theorem qL(A:AH)(hT:Dv A)(us:List Fu)(p:Option Addr)(cap:Nat)(hR:eV A us p)(hz: ∀u∈us,SzX u.w)(hl: ∀u∈us,(tX u.w).length≤1000000∧u.nm.size≤1000)(B_:AH)(hB_:SubA A B_):Ag Tryz.prog 7 #[.slice p us.length cap] B_=some (.string (bs (Gw us))):=AX (Aj (by kernel_rfl) (qK A hT us p cap hR hz hl) hB_)
end Go.Proofs.YtgmfcdeknaeikaaGreatDoor
