/-
Texts of lexemes; expressions are parsed back from their text.
Conditions: none.
-/
import Derived.Test.YtfphceknmgadgaaGreatDoorQn
import Derived.Test.YtfphceknmgadgaaGreatDoorQg
set_option linter.unusedSimpArgs false
set_option linter.unusedVariables false
namespace Go.Proofs.YtfphceknmgadgaaGreatDoor
open Go.Vm
set_option maxHeartbeats 2000000
set_option maxRecDepth 20000
def Ex(r:List UInt8):Prop:=r=[]∨ ∃c l,r=c::l∧CA c.toNat=false
def Yc(x:LR)(r:List UInt8):Prop:=(x.k=1∨x.k=2→Ex r)∧(x.k=4→x.t.toList=[60]→r.head? ≠some 61)
theorem KH{r:List UInt8}(h:Ex r): ∀w:List UInt8,BW w=w.length→BW (w++r)=w.length
 | [],_=>by rcases h with rfl|⟨c,l,rfl,h⟩<;>simp[BW, *]
 | c::w,hw=>by
  simp only[BW,List.length_cons]at hw
  by_cases hc:CA c.toNat=true
  ·rw[if_pos hc]at hw
   simp only[List.cons_append,BW,hc,if_true,List.length_cons]
   rw[KH h w (by omega)]
  ·rw[if_neg hc]at hw;omega
theorem fw{c:UInt8}{r:List UInt8}(hm:F0 c.toNat=true)(h:c=60→r.head? ≠some 61):Dk (c::r)=false:=by
 have h33:c≠33:=fun e=>by subst e;exact absurd hm (by decide+kernel)
 cases r with
 |nil=>simp[Dk,List.isPrefixOf]
 | cons d r=>
  by_cases h60:c=60
  ·have:=h h60
   simp at this
   subst h60
   have h61: ¬(61:UInt8)=d:=fun e=>this e.symm
   simp[Dk,List.isPrefixOf,h61]
  ·have h1: ¬(33:UInt8)=c:=fun e=>h33 e.symm
   have h2: ¬(60:UInt8)=c:=fun e=>h60 e.symm
   simp[Dk,List.isPrefixOf,h1,h2]
theorem QH{x:LR}(hx:KM x){s:ByteArray}{i:Nat}{r:List UInt8}(h:s.toList.drop i=Bq x++r)(hr:Yc x r):BV s i=⟨x.k,x.t,x.n,i,i+(Bq x).length,0⟩:=by
 rcases hx with⟨k,hn,h16,hw,c,l,h1,h2⟩|⟨k,ht,m,hm,hle⟩|⟨k,hn,h100,hl⟩|⟨k,hn,hm⟩
 ·have hf:Bq x=x.t.toList:=by simp[Bq,k]
  rw[hf]at h⊢
  have e1:=KH (hr.1 (.inl k)) _ hw
  have e2:=U7 h
  obtain⟨_,_,_,_,n33,n60⟩:=HN c.toNat (Dl c) h2
  have e3:s.extract i (i+x.t.toList.length)=x.t:=Ey e2
  rw[h1]at h e1 h16 e3⊢
  unfold BV
  rw[h]
  simp only[List.cons_append]at e1⊢
  rw[if_neg (by rw[Sa n33 n60];simp),if_pos h2,e1,if_neg (by omega),e3,k,hn]
 ·have hf:Bq x=Lib.decDigits m:=by simp[Bq,k,hm,Lib.itoa]
  rw[hf]at h⊢
  have e1:=KH (hr.1 (.inr k)) _ (N8 _ (Eg m))
  have e2:=U7 h
  have hnum:=mZ hle
  cases hd:Lib.decDigits m with
  |nil=>exact absurd hd (J0 m)
  |cons c l=>
   have h1:=Eg m
   rw[hd]at h h1 e1 e2 hnum
   rw[DX,Bool.and_eq_true]at h1
   obtain⟨nl,_,_,_,n33,n60,_⟩:=Fo c.toNat (Dl c) h1.1
   unfold BV
   rw[h]
   simp only[List.cons_append]at e1⊢
   rw[if_neg (by rw[Sa n33 n60];simp),if_neg (by rw[nl];simp),if_pos h1.1,e1,e2,hnum,if_neg (by simp),k,ht,hm]
 ·have hf:Bq x=34::(x.t.toList++[34]):=by simp[Bq,k]
  rw[hf]at h⊢
  have h':s.toList.drop (i+1)=x.t.toList++34::r:=by rw[←List.drop_drop,h];simp
  have e2:s.extract (i+1) (i+1+x.t.toList.length)=x.t:=Ey (U7 h')
  unfold BV
  rw[h]
  simp only[List.cons_append]
  rw[if_neg (by rw[Sa (by decide) (by decide)];simp),if_neg (by decide),if_neg (by decide),if_pos (by decide)]
  unfold EX
  rw[h',Pm _ hl]
  simp only
  rw[if_neg (by omega),e2,k,hn]
  simp only[List.length_cons,List.length_append,List.length_nil,LR.mk.injEq,and_true,true_and]
  omega
 ·have hf:Bq x=x.t.toList:=by simp[Bq,k]
  rw[hf]at h⊢
  have e3:s.extract i (i+x.t.toList.length)=x.t:=Ey (U7 h)
  rcases hm with hm|hm|⟨c,hm,hc⟩
  ·rw[hm]at h e3⊢
   unfold BV
   rw[h]
   simp only[List.cons_append,List.nil_append]
   rw[if_pos (by simp[Dk,List.isPrefixOf]),k,hn]
   simp only[List.length_cons,List.length_nil]at e3⊢
   rw[e3]
  ·rw[hm]at h e3⊢
   unfold BV
   rw[h]
   simp only[List.cons_append,List.nil_append]
   rw[if_pos (by simp[Dk,List.isPrefixOf]),k,hn]
   simp only[List.length_cons,List.length_nil]at e3⊢
   rw[e3]
  ·have hs:=hr.2 k
   rw[hm]at h e3 hs⊢
   obtain⟨nl,nd,nq,_⟩:=WE c.toNat (Dl c) hc
   have hp:Dk (c::r)=false:=fw hc fun e=>hs (by rw[e])
   unfold BV
   rw[h]
   simp only[List.cons_append,List.nil_append]
   rw[if_neg (by rw[hp];simp),if_neg (by rw[nl];simp),if_neg (by rw[nd];simp),if_neg nq,if_pos hc,k,hn]
   simp only[List.length_cons,List.length_nil]at e3⊢
   rw[e3]
inductive Tk where
 |x (r:LR)
 |b (c:UInt8)
def Cl:List Tk→List UInt8
 | []=>[]
 | .x r::l=>Bq r++Cl l
 | .b c::l=>c::Cl l
def Cg:List Tk→List LR
 | []=>[]
 | .x r::l=>r::Cg l
 | .b _::l=>Cg l
def Lb:List Tk→List UInt8→Prop
 | [],_=>True
 | .x r::l,w=>KM r∧Yc r (Cl l++w)∧Lb l w
 | .b c::l,w=>DA c.toNat=true∧Lb l w
theorem Dr: ∀A B:List Tk,Cl (A++B)=Cl A++Cl B
 | [],B=>rfl
 | .x r::A,B=>by simp[Cl,Dr A B]
 | .b c::A,B=>by simp[Cl,Dr A B]
theorem ER: ∀A B:List Tk,Cg (A++B)=Cg A++Cg B
 | [],B=>rfl
 | .x r::A,B=>by simp[Cg,ER A B]
 | .b c::A,B=>by simp[Cg,ER A B]
theorem Di(w:List UInt8): ∀A B:List Tk,Lb (A++B) w↔Lb A (Cl B++w)∧Lb B w
 | [],B=>by simp[Lb]
 | .x r::A,B=>by simp[Lb,Di w A B,Dr,and_assoc]
 | .b c::A,B=>by simp[Lb,Di w A B,and_assoc]
theorem SL(s:ByteArray): ∀(L:List Tk) (f i:Nat),s.size<i+Cs false (s.toList.drop i)+f→i≤s.size→Lb L []→s.toList.drop i=Cl L→ ∃K,B8 s f (i+Cs false (s.toList.drop i))=(0,0,K++[Es s])∧K.map D6=(Cg L).map D6
 | [],f,i,h,hi,_,hd=>by
  have hn:i=s.size:=by
   have:=congrArg List.length hd
   rw[List.length_drop,Ah]at this
   simp[Cl]at this;omega
  rw[hd]at h⊢
  simp only[Cl,Cs,Nat.add_zero]at h⊢
  cases f with
  |zero=>omega
  |succ f=>exact⟨[],by rw[EU f (by omega)];rfl,rfl⟩
 | .b c::L,f,i,h,hi,⟨hc,hw⟩,hd=>by
  obtain⟨hp,_,hl',hsl,hb⟩:=Ck hd
  have h35:c.toNat≠35:=fun e=>by rw[e]at hc;exact absurd hc (by decide)
  have hk:Cs false (s.toList.drop i)=1+Cs false (s.toList.drop (i+1)):=by
   rw[hd,hl']
   simp only[Cl,Cs,hc,h35,Bool.or_true,Bool.true_or,decide_false,Bool.or_false,Bool.false_and,if_true,Bool.false_or]
   omega
  rw[hk]at h⊢
  rw[show i+(1+Cs false (s.toList.drop (i+1)))=i+1+Cs false (s.toList.drop (i+1)) by omega]
  exact SL s L f (i+1) (by omega) (by omega) hw hl'
 | .x r::L,f,i,h,hi,⟨wx,ws,wL⟩,hd=>by
  rw[List.append_nil]at ws
  have hr:s.toList.drop i=Bq r++Cl L:=hd
  have hk:Cs false (s.toList.drop i)=0:=by rw[hr];exact Y6 wx _
  have hlex:=QH wx hr ws
  have hpos:0<(Bq r).length:=by obtain⟨c,l,e,_⟩:=Lt wx;rw[e];simp
  have hlen:=congrArg List.length hr
  rw[List.length_drop,Ah,List.length_append]at hlen
  have hd2:s.toList.drop (i+(Bq r).length)=Cl L:=by rw[←List.drop_drop,hr];simp
  rw[hk]at h⊢
  rw[Nat.add_zero]at h⊢
  cases f with
  |zero=>omega
  |succ f=>
   have hk2:=Fd false (s.toList.drop (i+(Bq r).length))
   obtain⟨K,k1,k2⟩:=SL s L f (i+(Bq r).length) (by omega) (by omega) wL hd2
   rw[Ef f (by omega) (by rw[hlex]) (j:=i+(Bq r).length+Cs false (s.toList.drop (i+(Bq r).length))) (by rw[hlex]),k1,hlex]
   exact⟨⟨r.k,r.t,r.n,i,i+(Bq r).length,0⟩::K,rfl,by simp only[List.map_cons,k2,Cg];rfl⟩
theorem jd(L:List Tk)(h:Lb L [])(hl:(Cl L).length≤4000): ∃K,AV (bs (Cl L))=(0,0,K++[Es (bs (Cl L))])∧K.map D6=(Cg L).map D6:=by
 have hs:=Ao (Cl L)
 unfold AV
 rw[if_neg (by omega)]
 have:=SL (bs (Cl L)) L ((bs (Cl L)).size+1) 0 (by omega) (by omega) h (by rw[BS,List.drop_zero])
 rw[List.drop_zero,Nat.zero_add]at this
 exact this
def EN(t:ByteArray):LR:=⟨1,t,0,0,0,0⟩
def PH(n:Int):LR:=⟨2,⟨#[]⟩,n,0,0,0⟩
def cu(t:ByteArray):LR:=⟨3,t,0,0,0,0⟩
def Dp(t:ByteArray):LR:=⟨4,t,0,0,0,0⟩
theorem HW(t:ByteArray):Bq (EN t)=t.toList:=by simp[Bq,EN]
theorem C5(t:ByteArray):Bq (Dp t)=t.toList:=by simp[Bq,Dp]
theorem FT(n:Int):Bq (PH n)=Lib.itoa n:=by simp[Bq,PH]
theorem nQ(t:ByteArray):Bq (cu t)=34::(t.toList++[34]):=by simp[Bq,cu]
theorem Gv{t:ByteArray}(h:DS t=true):KM (EN t):=by
 unfold DS at h
 simp only[Bool.and_eq_true,decide_eq_true_eq]at h
 obtain⟨h1,h2,h3,h4⟩:=h
 refine .inl ⟨rfl,rfl,by show t.toList.length≤16;rw[Ah];exact h2,by show BW t.toList=t.toList.length;rw[Ah];exact h4, ?_⟩
 show∃c l,t.toList=c::l∧_
 cases hl:t.toList with
 |nil=>rw[hl]at h3;cases h3
 |cons c l=>rw[hl]at h3;exact⟨c,l,rfl,h3⟩
theorem Yg{n:Int}(h0:0≤n)(h:n≤9007199254740992):KM (PH n):=.inr (.inl ⟨rfl,rfl,n.toNat,by show n=_;omega,by omega⟩)
theorem RP: ∀{l:List UInt8},l.all chB=true→Dh (l++[34])=some l.length
 | [],_=>rfl
 |c::l,h=>by
  rw[List.all_cons,Bool.and_eq_true]at h
  have:=RP h.2
  have hc:=h.1
  unfold chB at hc
  simp only[Bool.and_eq_true,decide_eq_true_eq]at hc
  have hb:JZ c=false:=by unfold JZ;simp;omega
  simp only[List.cons_append,Dh,hb,this,hc.2,if_false,Bool.false_eq_true,List.length_cons]
theorem wf_tx{t:ByteArray}(h:Gq t=true):KM (cu t):=by
 unfold Gq at h
 simp only[Bool.and_eq_true,decide_eq_true_eq]at h
 exact .inr (.inr (.inl ⟨rfl,rfl,by show t.toList.length≤100;rw[Ah];exact h.1,RP h.2⟩))
theorem Fx{c:UInt8}(h:F0 c.toNat=true):KM (Dp ⟨#[c]⟩):=.inr (.inr (.inr ⟨rfl,rfl,.inr (.inr ⟨c,by rw[show(Dp ⟨#[c]⟩).t=⟨#[c]⟩ from rfl,ByteArray.toList_eq],h⟩)⟩))
theorem Fz{t:ByteArray}(h:t.toList≠[60])(r:List UInt8):Yc (Dp t) r:=by
 unfold Yc Dp
 exact⟨fun e=>by simp at e,fun _ e=>absurd e h⟩
theorem ok_tx(t:ByteArray)(r:List UInt8):Yc (cu t) r:=by
 unfold Yc cu
 exact⟨fun e=>by simp at e,fun e=>by simp at e⟩
theorem Gc(t:ByteArray){r:List UInt8}(h:Ex r):Yc (EN t) r:=by
 unfold Yc EN
 exact⟨fun _=>h,fun e=>by simp at e⟩
theorem az(n:Int){r:List UInt8}(h:Ex r):Yc (PH n) r:=by
 unfold Yc PH
 exact⟨fun _=>h,fun e=>by simp at e⟩
theorem EL{c:UInt8}(h:CA c.toNat=false)(l:List UInt8):Ex (c::l):=.inr ⟨c,l,rfl,h⟩
end Go.Proofs.YtfphceknmgadgaaGreatDoor
namespace Go.Proofs.YtfphceknmgadgaaGreatDoor
open Go.Vm
set_option maxHeartbeats 2000000
set_option maxRecDepth 20000
theorem Xs.ind{P:Xs→Prop}(h: ∀op nm tx n args,(∀a∈args,P a)→P (.mk op nm tx n args))(x:Xs):P x:=
 Xs.rec (motive_1:=P) (motive_2:=fun l=> ∀a∈l,P a) (fun op nm tx n args ih=>h op nm tx n args ih) (fun a ha=>by cases ha) (fun a l ha hl b hb=>by
  rcases List.mem_cons.1 hb with e|e
  ·rw[e];exact ha
  ·exact hl b e) x
def coB:ByteArray:=⟨#[99,111,117,110,116]⟩
def suB:ByteArray:=⟨#[115,117,109]⟩
def noB:ByteArray:=⟨#[110,111,116]⟩
def iB:ByteArray:=⟨#[105,110]⟩
def KP(op:Int):LR:=if op=7∨op=6 then EN (bs (Hh op))else Dp (bs (Hh op))
def Uh:Tk:=.x (Dp ⟨#[40]⟩)
def Hn:Tk:=.x (Dp ⟨#[41]⟩)
def KN:Tk:=.x (Dp ⟨#[44]⟩)
def cz(k:Int)(p:Int×List Tk):List Tk:=if k≤Ev p.1 then p.2 else Uh::(p.2++[Hn])
def mq(l:List (Int×List Tk))(i:Nat)(k:Int):List Tk:=cz k (l.getD i (0,[]))
def gZ(l:List (Int×List Tk)):List Tk:=l.flatMap fun p=>KN:: .b 32::cz 4 p
def gF:List (Int×List Tk)→List Tk
 | []=>[]
 |p::l=>cz 4 p++gZ l
def H7(op:Int)(nm tx:ByteArray)(n:Int)(l:List (Int×List Tk)):List Tk:=
 if op=1 then [.x (PH n)]
 else if op=2 then [.x (cu tx)]
 else if op=3 then [.x (EN nm)]
 else if op=16 then [.x (EN coB),Uh,.x (EN nm),KN,.b 32,.x (PH n),Hn]
 else if op=17 then [.x (EN suB),Uh,.x (EN nm),KN,.b 32,.x (PH n),Hn]
 else if op=4 then .x (EN noB):: .b 32::mq l 0 6
 else if op=5 then .x (Dp ⟨#[45]⟩)::mq l 0 6
 else if op=15 then mq l 0 4++(.b 32:: .x (EN iB):: .b 32::Uh::(gF (l.drop 1)++[Hn]))
 else mq l 0 (L4 op)++(.b 32:: .x (KP op):: .b 32::mq l 1 (Ev op+1))
mutual
def kX:Xs→List Tk
 | .mk op nm tx n args=>H7 op nm tx n (kL args)
def kL:List Xs→List (Int×List Tk)
 | []=>[]
 |x::l=>(opO x,kX x)::kL l
end
theorem SX: ∀l:List Xs,kL l=l.map fun x=>(opO x,kX x)
 | []=>by simp[kL]
 |x::l=>by simp[kL,SX l]
def Dn(k:Int)(t:Xs):List Tk:=cz k (opO t,kX t)
theorem ml(a:Array UInt8):ByteArray.toList ⟨a⟩=a.toList:=by rw[ByteArray.toList_eq]
theorem SJ(k:Int)(p:Int×List Tk):Cl (cz k p)=WS k (p.1,Cl p.2):=by
 unfold cz WS
 split
 ·rfl
 ·simp[Cl,Uh,Hn,Dr,C5,ml]
def tP(p:Int×List Tk):Int×List UInt8:=(p.1,Cl p.2)
theorem Mx(l:List (Int×List Tk))(i:Nat)(k:Int):Cl (mq l i k)=Wd (l.map tP) i k:=by
 unfold mq Wd
 rw[SJ]
 congr 1
 rw[List.getD_eq_getElem?_getD,List.getD_eq_getElem?_getD,List.getElem?_map]
 cases l[i]? <;>rfl
theorem Tz: ∀l:List (Int×List Tk),Cl (gZ l)=MS (l.map tP)
 | []=>rfl
 |p::l=>by
  have:=Tz l
  simp only[gZ,MS,List.flatMap_cons,List.map_cons,List.cons_append,Cl,Dr,KN,C5,ml,SJ]at this⊢
  rw[this]
  rfl
theorem jQ: ∀l:List (Int×List Tk),Cl (gF l)=Mn (l.map tP)
 | []=>rfl
 |p::l=>by simp only[gF,Mn,List.map_cons,Dr,Tz,SJ];rfl
theorem cY(op:Int)(nm tx:ByteArray)(n:Int)(l:List (Int×List Tk)):Cl (H7 op nm tx n l)=CP op nm tx n (l.map tP):=by
 unfold H7 CP
 split
 ·simp[Cl,FT]
 split
 ·simp[Cl,nQ,ByteArray.toList_eq]
 split
 ·simp[Cl,HW,ByteArray.toList_eq]
 split
 ·simp[Cl,HW,FT,C5,Uh,Hn,KN,coB,ByteArray.toList_eq]
 split
 ·simp[Cl,HW,FT,C5,Uh,Hn,KN,suB,ByteArray.toList_eq]
 split
 ·simp[Cl,HW,noB,ByteArray.toList_eq,Mx]
 split
 ·simp[Cl,C5,ByteArray.toList_eq,Mx]
 split
 ·simp[Cl,Dr,HW,C5,Uh,Hn,iB,ByteArray.toList_eq,Mx,jQ,List.map_drop]
 ·have:Bq (KP op)=Hh op:=by unfold KP;split<;>simp[HW,C5,BS]
  simp[Cl,Dr,Mx,this]
theorem GM(x:Xs):Cl (kX x)=tX x:=by
 induction x using Xs.ind with
 |h op nm tx n args ih=>
  rw[kX,tX,cY,SX,Ea,List.map_map]
  congr 1
  apply List.map_congr_left
  intro a ha
  simp only[Function.comp,tP,ih a ha]
def OkX(x:Xs):Prop:= ∀w,Ex w→Lb (kX x) w
theorem mA:KM (Dp ⟨#[40]⟩):=Fx (by decide+kernel)
theorem jS:KM (Dp ⟨#[41]⟩):=Fx (by decide+kernel)
theorem py:KM (Dp ⟨#[44]⟩):=Fx (by decide+kernel)
theorem Ny{k:Int}{x:Xs}(h:OkX x){w:List UInt8}(hw:Ex w):Lb (Dn k x) w:=by
 unfold Dn cz
 split
 ·exact h w hw
 ·simp only[Uh,Hn,Lb,Di,Cl,C5,ml]
  exact⟨mA,Fz (by rw[ml];decide) _,h _ (EL (by decide) _),jS,Fz (by rw[ml];decide) _,trivial⟩
theorem NN{args:List Xs}{i:Nat}{a:Xs}(h:args[i]? =some a)(k:Int):mq (kL args) i k=Dn k a:=by
 unfold mq Dn
 rw[SX,List.getD_eq_getElem?_getD,List.getElem?_map,h];rfl
theorem inR_k(l:List Xs):gZ (kL l)=l.flatMap fun x=>KN:: .b 32::Dn 4 x:=by
 unfold gZ Dn;rw[SX,List.flatMap_map]
theorem inA_k(x:Xs)(l:List Xs):gF (kL (x::l))=Dn 4 x++l.flatMap fun x=>KN:: .b 32::Dn 4 x:=by
 rw[kL,gF,inR_k];rfl
theorem ld: ∀(l:List Xs),(∀a∈l,OkX a)→ ∀w,Lb (l.flatMap fun x=>KN:: .b 32::Dn 4 x) (41::w)∧Ex (Cl (l.flatMap fun x=>KN:: .b 32::Dn 4 x)++41::w)
 | [],_,w=>⟨trivial,EL (by decide) _⟩
 |x::l,h,w=>by
  obtain⟨h1,h2⟩:=ld l (fun a ha=>h a (by simp[ha])) w
  simp only[List.flatMap_cons,Di,Dr,List.cons_append,KN,Lb,Cl,C5,ml]
  exact⟨⟨py,Fz (by rw[ml];decide) _,by decide,Ny (h x (by simp)) h2,h1⟩,EL (by decide) _⟩
theorem fW{s:ByteArray}(h:Hi s=true):KM (EN s):=by
 unfold Hi at h
 simp only[Bool.and_eq_true]at h
 exact Gv h.1
theorem sy_wf{op:Int}(h:6≤op∧op≤14):KM (KP op):=by
 have:op=6∨op=7∨op=8∨op=9∨op=10∨op=11∨op=12∨op=13∨op=14:=by omega
 rcases this with rfl|rfl|rfl|rfl|rfl|rfl|rfl|rfl|rfl
 ·exact Gv (by decide+kernel)
 ·exact Gv (by decide+kernel)
 ·exact Fx (c:=61) (by decide+kernel)
 ·exact .inr (.inr (.inr ⟨rfl,rfl,.inl (BS _)⟩))
 ·exact Fx (c:=60) (by decide+kernel)
 ·exact .inr (.inr (.inr ⟨rfl,rfl,.inr (.inl (BS _))⟩))
 ·exact Fx (c:=43) (by decide+kernel)
 ·exact Fx (c:=45) (by decide+kernel)
 ·exact Fx (c:=42) (by decide+kernel)
theorem sy_ok(op:Int)(w:List UInt8):Yc (KP op) (32::w):=by
 unfold KP
 split
 ·exact Gc _ (EL (by decide) _)
 ·unfold Yc Dp
  exact⟨fun e=>by simp at e,fun _ _=>by simp⟩
theorem vR{l:List Xs}(h:l.length=2): ∃a b,l=[a,b]:=by
 match l,h with
 | [a,b],_=>exact⟨a,b,rfl⟩
theorem one_of{l:List Xs}(h:l.length=1): ∃a,l=[a]:=by
 match l,h with
 | [a],_=>exact⟨a,rfl⟩
theorem Sl{l:List Xs}(h:2≤l.length): ∃a b r,l=a::b::r:=by
 match l,h with
 |a::b::r,_=>exact⟨a,b,r,rfl⟩
inductive WrX:Xs→Prop
 |num {n:Int}:0≤n→n≤9007199254740992→WrX (.mk 1 eB eB n [])
 |txt {t:ByteArray}:Gq t=true→WrX (.mk 2 eB t 0 [])
 |nam {t:ByteArray}:Hi t=true→WrX (.mk 3 t eB 0 [])
 |use {op n:Int} {t:ByteArray}:op=16∨op=17→Hi t=true→0≤n→n≤9007199254740992→WrX (.mk op t eB n [])
 |one {op:Int} {a:Xs}:op=4∨op=5→WrX a→WrX (.mk op eB eB 0 [a])
 |two {op:Int} {a b:Xs}:6≤op∧op≤14→WrX a→WrX b→WrX (.mk op eB eB 0 [a,b])
 |inn {a b:Xs} {l:List Xs}:WrX a→WrX b→(∀x∈l,WrX x)→WrX (.mk 15 eB eB 0 (a::b::l))
theorem NM{s:ByteArray}(h:He s=true):s=eB:=by
 have:s.toList=[]:=of_decide_eq_true h
 exact Ey (by rw[this,eB,DF])
theorem Lj(x:Xs):wX x=true→WrX x:=by
 induction x using Xs.ind with
 | h op nm tx n args ih=>
  intro h
  obtain⟨hF,hall⟩:=SY h
  unfold Cu at hF
  split at hF
  ·rename_i e;subst e
   simp only[Bool.and_eq_true,decide_eq_true_eq]at hF
   obtain⟨⟨⟨⟨h1,h2⟩,h3⟩,h4⟩,h5⟩:=hF
   rw[NM h3,NM h4,List.eq_nil_of_length_eq_zero h5]
   exact .num h1 h2
  split at hF
  ·rename_i e;subst e
   simp only[Bool.and_eq_true,decide_eq_true_eq]at hF
   obtain⟨⟨⟨h1,h2⟩,h3⟩,h5⟩:=hF
   rw[NM h2,h3,List.eq_nil_of_length_eq_zero h5]
   exact .txt h1
  split at hF
  ·rename_i e;subst e
   simp only[Bool.and_eq_true,decide_eq_true_eq]at hF
   obtain⟨⟨⟨h1,h2⟩,h3⟩,h5⟩:=hF
   rw[NM h2,h3,List.eq_nil_of_length_eq_zero h5]
   exact .nam h1
  split at hF
  ·rename_i e
   simp only[Bool.and_eq_true,decide_eq_true_eq]at hF
   obtain⟨⟨⟨⟨h1,h2⟩,h3⟩,h4⟩,h5⟩:=hF
   rw[NM h4,List.eq_nil_of_length_eq_zero h5]
   exact .use e h1 h2 h3
  simp only[Bool.and_eq_true,decide_eq_true_eq]at hF
  obtain⟨⟨⟨h1,h2⟩,h3⟩,h4⟩:=hF
  rw[NM h1,NM h2,h3]
  split at h4
  ·rename_i e
   obtain⟨a,rfl⟩:=one_of (of_decide_eq_true h4)
   exact .one e (ih a (by simp) (hall a (by simp)))
  split at h4
  ·rename_i e
   obtain⟨a,b,rfl⟩:=vR (of_decide_eq_true h4)
   exact .two e (ih a (by simp) (hall a (by simp))) (ih b (by simp) (hall b (by simp)))
  ·simp only[Bool.and_eq_true,decide_eq_true_eq]at h4
   obtain⟨a,b,r,rfl⟩:=Sl h4.2
   rw[h4.1]
   exact .inn (ih a (by simp) (hall a (by simp))) (ih b (by simp) (hall b (by simp))) fun x hx=>ih x (by simp[hx]) (hall x (by simp[hx]))
theorem XK(n:Int):kX (.mk 1 eB eB n [])=[.x (PH n)]:=by simp[kX,H7]
theorem Wu(t:ByteArray):kX (.mk 2 eB t 0 [])=[.x (cu t)]:=by simp[kX,H7]
theorem W0(t:ByteArray):kX (.mk 3 t eB 0 [])=[.x (EN t)]:=by simp[kX,H7]
def iG(op:Int):ByteArray:=if op=16 then coB else suB
theorem Wn{op:Int}(h:op=16∨op=17)(t:ByteArray)(n:Int):kX (.mk op t eB n [])=[.x (EN (iG op)),Uh,.x (EN t),KN,.b 32,.x (PH n),Hn]:=by
 rcases h with rfl|rfl<;>simp[kX,H7,iG]
theorem XN(a:Xs):kX (.mk 4 eB eB 0 [a])=.x (EN noB):: .b 32::Dn 6 a:=by simp[kX,H7,NN (args:=[a]) (i:=0) rfl]
theorem W5(a:Xs):kX (.mk 5 eB eB 0 [a])=.x (Dp ⟨#[45]⟩)::Dn 6 a:=by simp[kX,H7,NN (args:=[a]) (i:=0) rfl]
theorem Wh{op:Int}(h:6≤op∧op≤14)(a b:Xs):kX (.mk op eB eB 0 [a,b])=Dn (L4 op) a++(.b 32:: .x (KP op):: .b 32::Dn (Ev op+1) b):=by
 rw[kX,H7,if_neg (by omega),if_neg (by omega),if_neg (by omega),if_neg (by omega),if_neg (by omega),if_neg (by omega),if_neg (by omega),if_neg (by omega),NN (args:=[a,b]) (i:=0) rfl,NN (args:=[a,b]) (i:=1) rfl]
theorem XG(a b:Xs)(l:List Xs):kX (.mk 15 eB eB 0 (a::b::l))=Dn 4 a++(.b 32:: .x (EN iB):: .b 32::Uh::((Dn 4 b++l.flatMap fun x=>KN:: .b 32::Dn 4 x)++[Hn])):=by
 rw[kX,H7,if_neg (by decide),if_neg (by decide),if_neg (by decide),if_neg (by decide),if_neg (by decide),if_neg (by decide),if_neg (by decide),if_pos rfl,NN (args:=a::b::l) (i:=0) rfl,←inA_k]
 rfl
theorem okX{x:Xs}(h:WrX x):OkX x:=by
 induction h with
 |num h1 h2=>intro w hw;rw[XK];exact⟨Yg h1 h2,az _ hw,trivial⟩
 |txt h=>intro w hw;rw[Wu];exact⟨wf_tx h,ok_tx _ _,trivial⟩
 |nam h=>intro w hw;rw[W0];exact⟨fW h,Gc _ hw,trivial⟩
 | @use op n t h h1 h2 h3=>
  intro w hw
  rw[Wn h]
  have hu:KM (EN (iG op)):=by rcases h with rfl|rfl<;>exact Gv (by decide+kernel)
  simp only[Lb,Uh,KN,Hn,Cl,C5,ml]
  exact⟨hu,Gc _ (EL (by decide) _),mA,Fz (by rw[ml];decide) _,fW h1,Gc _ (EL (by decide) _),py,Fz (by rw[ml];decide) _,by decide,Yg h2 h3,az _ (EL (by decide) _),jS,Fz (by rw[ml];decide) _,trivial⟩
 | @one op a h ha ih=>
  intro w hw
  rcases h with rfl|rfl
  ·rw[XN]
   exact⟨Gv (by decide+kernel),Gc _ (EL (by decide) _),by decide,Ny ih hw⟩
  ·rw[W5]
   exact⟨Fx (by decide+kernel),Fz (by rw[ml];decide) _,Ny ih hw⟩
 | @two op a b h ha hb iha ihb=>
  intro w hw
  rw[Wh h,Di]
  exact⟨Ny iha (EL (by decide) _),by decide,sy_wf h,sy_ok _ _,by decide,Ny ihb hw⟩
 | @inn a b l ha hb hl iha ihb ihl=>
  intro w hw
  obtain⟨h1,h2⟩:=ld l ihl w
  rw[XG,Di]
  refine⟨Ny iha (EL (by decide) _),by decide,Gv (by decide+kernel),Gc _ (EL (by decide) _),by decide,mA,Fz (by rw[ml];decide) _, ?_⟩
  rw[Di,Di]
  have e:Cl [Hn]++w=41::w:=by simp[Cl,Hn,C5,ml]
  rw[e]
  exact⟨⟨Ny ihb h2,h1⟩,jS,Fz (by rw[ml];decide) _,trivial⟩
end Go.Proofs.YtfphceknmgadgaaGreatDoor
namespace Go.Proofs.YtfphceknmgadgaaGreatDoor
open Go.Vm
set_option maxHeartbeats 2000000
set_option maxRecDepth 20000
def N9(L:List LR)(i:Nat)(X:List LR):Prop:= ∀(j:Nat) (x:LR),X[j]? =some x→D6 (Bp L (i+j))=D6 x
theorem N9.app{L:List LR}{i:Nat}{X Y:List LR}(h:N9 L i (X++Y)):N9 L i X∧N9 L (i+X.length) Y:=by
 refine⟨fun j x hx=>h j x (by rw[List.getElem?_append_left (List.getElem?_eq_some_iff.1 hx).1];exact hx),fun j x hx=> ?_⟩
 have:=h (X.length+j) x (by rw[List.getElem?_append_right (by omega),show X.length+j - X.length=j by omega];exact hx)
 rwa [←Nat.add_assoc]at this
theorem N9.hd{L:List LR}{i:Nat}{x:LR}{X:List LR}(h:N9 L i (x::X)):D6 (Bp L i)=D6 x∧N9 L (i+1) X:=by
 refine⟨h 0 x rfl,fun j y hy=> ?_⟩
 have:=h (j+1) y hy
 rwa [show i+(j+1)=i+1+j by omega]at this
section
variable {x y:LR} (h:D6 x=D6 y)
include h
theorem DJ(k:Int)(t:ByteArray):Bs x k t=Bs y k t:=by unfold Bs;rw[(Cm h).1,(Cm h).2.1]
theorem Xn:JV x=JV y:=by unfold JV;rw[(Cm h).1,(Cm h).2.1]
theorem my(m:Int):M9 x m=M9 y m:=by unfold M9;rw[(Cm h).1,(Cm h).2.2]
theorem X1(l:Nat):Fs l x=Fs l y:=by unfold Fs;simp only[DJ h]
theorem SO:Hw x=Hw y:=by unfold Hw;simp only[DJ h]
theorem ZL:PJ x=PJ y:=by unfold PJ;simp only[DJ h]
theorem JS:FR x=FR y:=by unfold FR;simp only[DJ h,(Cm h).1,Xn h]
end
def SH(l:Nat)(y:LR):Prop:=(∀m,l≤m→m<5→m≠2→Fs m y=none)∧(l≤2→Hw y=none∧PJ y=false)
theorem SH.key{l:Nat}{x y:LR}(h:D6 x=D6 y)(hs:SH l y):SH l x:=by
 refine⟨fun m h1 h2 h3=> ?_,fun hl=> ?_⟩
 ·rw[X1 h];exact hs.1 m h1 h2 h3
 ·rw[SO h,ZL h];exact hs.2 hl
theorem SH.up{l m:Nat}{y:LR}(h:SH l y)(hm:l≤m):SH m y:=⟨fun k h1 h2 h3=>h.1 k (by omega) h2 h3,fun h1=>h.2 (by omega)⟩
theorem SH.five(y:LR):SH 5 y:=⟨fun m h1 h2=>by omega,fun h=>by omega⟩
theorem SH.of{l:Nat}{y:LR}(h0:l≤0→Fs 0 y=none)(h1:l≤1→Fs 1 y=none)(h2:l≤2→Hw y=none∧PJ y=false)(h3:l≤3→Fs 3 y=none)(h4:l≤4→Fs 4 y=none):SH l y:=
 ⟨fun m a b c=>by
  have:m=0∨m=1∨m=3∨m=4:=by omega
  rcases this with rfl|rfl|rfl|rfl
  ·exact h0 a
  ·exact h1 a
  ·exact h3 a
  ·exact h4 a,h2⟩
def ln(T:List Tk):Nat:=(Cg T).length
theorem N9.apT{L:List LR}{i:Nat}{T:List Tk}{Y:List LR}(h:N9 L i (Cg T++Y)):N9 L i (Cg T)∧N9 L (i+ln T) Y:=h.app
def Rd(l:Nat)(T:List Tk)(x:Xs):Prop:= ∀(L:List LR) (i:Nat),N9 L i (Cg T)→SH l (Bp L (i+ln T))→Pr L (.lv l) i (.ok x (i+ln T))
def Rq(l:Nat)(T:List Tk)(x:Xs):Prop:= ∀(L:List LR) (i:Nat) (r:Rz),N9 L i (Cg T)→SH (l+1) (Bp L (i+ln T))→Pr L (.lp l x) (i+ln T) r→Pr L (.lv l) i r
theorem Rq.rd{l:Nat}{T:List Tk}{x:Xs}(h:Rq l T x)(h2:l≠2)(h5:l<5):Rd l T x:=fun L i ha hs=>h L i _ ha (hs.up (by omega)) (.lpN (hs.1 l (Nat.le_refl _) h5 h2))
theorem Rd.rq{l:Nat}{T:List Tk}{x:Xs}(h:Rd (l+1) T x)(h2:l≠2)(h5:l<5):Rq l T x:=fun L i r ha hs hp=>.opO h2 h5 (h L i ha hs) hp
theorem Rd.two{T:List Tk}{x:Xs}(h:Rd 3 T x):Rd 2 T x:=fun L i ha hs=>.cmN (h L i ha (hs.up (by omega))) (hs.2 (by omega)).1 (hs.2 (by omega)).2
theorem Y7{g:Nat}{T:List Tk}{x:Xs}(hg:g≤5)(h:Rd g T x): ∀d l,l+d=g→Rd l T x∧(l<g→l≠2→Rq l T x)
 |0,l,e=>by
  obtain rfl:l=g:=by omega
  exact⟨h,fun h=>by omega⟩
 | d+1,l,e=>by
  have h1:=(Y7 hg h d (l+1) (by omega)).1
  by_cases h2:l=2
  ·subst h2;exact⟨h1.two,fun _ h=>absurd rfl h⟩
  ·have hq:=h1.rq h2 (by omega)
   exact⟨hq.rd h2 (by omega),fun _ _=>hq⟩
def oV(x:Xs):Prop:= ∀(l:Nat) (k:Int),k=l+1→l≤5→Rd l (Dn k x) x∧(l≠2→l<5→Rq l (Dn k x) x)
theorem unC_op:FR (Dp ⟨#[40]⟩)=.par:=by simp[FR,Bs,Dp,ml]
theorem tM:Bs (Dp ⟨#[41]⟩) 4 ⟨#[41]⟩=true:=by simp[Bs,Dp]
theorem gK:SH 0 (Dp ⟨#[41]⟩):=by
 refine .of ?_ ?_ ?_ ?_ ?_<;>intro _<;>simp[Fs,Hw,PJ,Bs,Dp,ml]
theorem uv:SH 0 (Dp ⟨#[44]⟩):=by
 refine .of ?_ ?_ ?_ ?_ ?_<;>intro _<;>simp[Fs,Hw,PJ,Bs,Dp,ml]
theorem GY{x:Xs}{g:Nat}(hg:Ev (opO x)=(g:Int)+1)(h:Rd g (kX x) x)(hq:g≠2→g<5→Rq g (kX x) x):oV x:=by
 intro l k hk hl
 have hg5:g≤5:=by have:=SK (opO x);omega
 by_cases hlg:l≤g
 ·have e:Dn k x=kX x:=by unfold Dn cz;rw[if_pos (by show k≤Ev (opO x);omega)]
  rw[e]
  obtain⟨h1,h2⟩:=Y7 hg5 h (g - l) l (by omega)
  refine⟨h1,fun a b=> ?_⟩
  by_cases e:l=g
  ·subst e;exact hq a b
  ·exact h2 (by omega) a
 ·have e:Dn k x=Uh::(kX x++[Hn]):=by unfold Dn cz;rw[if_neg (by show¬k≤Ev (opO x);omega)]
  rw[e]
  have h5:Rd 5 (Uh::(kX x++[Hn])) x:=by
   intro L i ha _
   have eL:Cg (Uh::(kX x++[Hn]))=Dp ⟨#[40]⟩::(Cg (kX x)++[Dp ⟨#[41]⟩]):=by simp[Cg,Uh,Hn,ER]
   have en:ln (Uh::(kX x++[Hn]))=ln (kX x)+2:=by unfold ln;rw[eL];simp
   rw[en]
   rw[eL]at ha
   obtain⟨a1,a2⟩:=ha.hd
   obtain⟨a3,a4⟩:=a2.apT
   obtain⟨a5,_⟩:=a4.hd
   have h0:=(Y7 hg5 h g 0 (by omega)).1 L (i+1) a3 (gK.key a5)
   have:=Pr.paO (by rw[JS a1];exact unC_op) h0 (by rw[DJ a5];exact tM)
   rwa [show i+1+ln (kX x)+1=i+(ln (kX x)+2) by omega]at this
  obtain⟨h1,h2⟩:=Y7 (Nat.le_refl 5) h5 (5 - l) l (by omega)
  exact⟨h1,fun a b=>h2 b a⟩
theorem mg{t:ByteArray}(h:Hi t=true):FR (EN t)=.nam:=by
 unfold Hi at h
 simp only[Bool.and_eq_true,Bool.not_eq_true']at h
 have hn:JV (EN t)=true:=by simp[JV,EN,h.2]
 have h2:=h.2
 unfold Ju at h2
 simp only[Bool.or_eq_false_iff,decide_eq_false_iff_not,ml]at h2
 simp[FR,Bs,EN,h2]
 have hn':JV (⟨1,t,0,0,0,0⟩:LR)=true:=hn
 simp[hn']
theorem oN{t:ByteArray}(h:Hi t=true):JV (EN t)=true:=by
 unfold Hi at h
 simp only[Bool.and_eq_true,Bool.not_eq_true']at h
 simp[JV,EN,h.2]
theorem XO{x:Xs}{y:LR}(e:kX x=[.x y])(h: ∀(L:List LR) (i:Nat),D6 (Bp L i)=D6 y→Pr L (.lv 5) i (.ok x (i+1))):Rd 5 (kX x) x:=by
 intro L i ha _
 rw[e]at ha⊢
 exact h L i (N9.hd (x:=y) (X:=[]) ha).1
theorem sy_op{op:Int}(h:6≤op∧op≤14): ∃g:Nat,Ev op=(g:Int)+1∧g≤4∧L4 op=(if g=2 then 4 else(g:Int)+1)∧SH (g+1) (KP op)∧(if g=2 then Hw (KP op)=some op else Fs g (KP op)=some op):=by
 have:op=6∨op=7∨op=8∨op=9∨op=10∨op=11∨op=12∨op=13∨op=14:=by omega
 rcases this with rfl|rfl|rfl|rfl|rfl|rfl|rfl|rfl|rfl
 ·exact⟨1,rfl,by omega,rfl,.of (by simp) (by simp) (fun _=>by simp[Hw,PJ,Bs,KP,EN,Dp,Hh,ml,BS]) (fun _=>by simp[Fs,Bs,KP,EN,Hh,ml,BS]) (fun _=>by simp[Fs,Bs,KP,EN,Hh,ml,BS]),by simp[Fs,Bs,KP,EN,Hh,ml,BS]⟩
 ·exact⟨0,rfl,by omega,rfl,.of (by simp) (fun _=>by simp[Fs,Bs,KP,EN,Hh,ml,BS]) (fun _=>by simp[Hw,PJ,Bs,KP,EN,Dp,Hh,ml,BS]) (fun _=>by simp[Fs,Bs,KP,EN,Hh,ml,BS]) (fun _=>by simp[Fs,Bs,KP,EN,Hh,ml,BS]),by simp[Fs,Bs,KP,EN,Hh,ml,BS]⟩
 all_goals first
  |exact⟨2,rfl,by omega,rfl,.of (by simp) (by simp) (by simp) (fun _=>by simp[Fs,Bs,KP,Dp,Hh,ml,BS]) (fun _=>by simp[Fs,Bs,KP,Dp,Hh,ml,BS]),by simp[Hw,Bs,KP,Dp,Hh,ml,BS]⟩
  |exact⟨3,rfl,by omega,rfl,.of (by simp) (by simp) (by simp) (by simp) (fun _=>by simp[Fs,Bs,KP,Dp,Hh,ml,BS]),by simp[Fs,Bs,KP,Dp,Hh,ml,BS]⟩
  |exact⟨4,rfl,by omega,rfl,.of (by simp) (by simp) (by simp) (by simp) (by simp),by simp[Fs,Bs,KP,Dp,Hh,ml,BS]⟩
theorem kG{L:List LR}: ∀(l:List Xs) (b:Xs) (xs:List Xs) (i:Nat),oV b→(∀x∈l,oV x)→N9 L i (Cg ((Dn 4 b++l.flatMap fun x=>KN:: .b 32::Dn 4 x)++[Hn]))→
  Pr L (.ch xs) i (.ok (.mk 15 eB eB 0 (xs++b::l)) (i+ln ((Dn 4 b++l.flatMap fun x=>KN:: .b 32::Dn 4 x)++[Hn])))
 | [],b,xs,i,hb,_,ha=>by
  have eL:Cg ((Dn 4 b++([]:List Xs).flatMap fun x=>KN:: .b 32::Dn 4 x)++[Hn])=Cg (Dn 4 b)++[Dp ⟨#[41]⟩]:=by simp[ER,Cg,Hn]
  have en:ln ((Dn 4 b++([]:List Xs).flatMap fun x=>KN:: .b 32::Dn 4 x)++[Hn])=ln (Dn 4 b)+1:=by unfold ln;rw[eL];simp
  rw[en]
  rw[eL]at ha
  obtain⟨a1,a2⟩:=ha.apT
  obtain⟨a3,_⟩:=a2.hd
  have:=(hb 3 4 rfl (by omega)).1 L i a1 ((gK.up (by omega)).key a3)
  have:=Pr.chO (xs:=xs) this (by rw[DJ a3];simp[Bs,Dp,ml]) (by rw[DJ a3];exact tM)
  exact this
 |c::l,b,xs,i,hb,hl,ha=>by
  have eL:Cg ((Dn 4 b++(c::l).flatMap fun x=>KN:: .b 32::Dn 4 x)++[Hn])=Cg (Dn 4 b)++(Dp ⟨#[44]⟩::Cg ((Dn 4 c++l.flatMap fun x=>KN:: .b 32::Dn 4 x)++[Hn])):=by simp[ER,Cg,Hn,KN]
  have en:ln ((Dn 4 b++(c::l).flatMap fun x=>KN:: .b 32::Dn 4 x)++[Hn])=ln (Dn 4 b)+1+ln ((Dn 4 c++l.flatMap fun x=>KN:: .b 32::Dn 4 x)++[Hn]):=by unfold ln;rw[eL];simp;omega
  rw[en]
  rw[eL]at ha
  obtain⟨a1,a2⟩:=ha.apT
  obtain⟨a3,a4⟩:=a2.hd
  have h1:=(hb 3 4 rfl (by omega)).1 L i a1 ((uv.up (by omega)).key a3)
  have h2:=kG l c (xs++[b]) (i+ln (Dn 4 b)+1) (hl c (by simp)) (fun x hx=>hl x (by simp[hx])) a4
  have:=Pr.chM h1 (by rw[DJ a3];simp[Bs,Dp]) h2
  rwa [List.append_assoc,show i+ln (Dn 4 b)+1+ln ((Dn 4 c++l.flatMap fun x=>KN:: .b 32::Dn 4 x)++[Hn])=i+(ln (Dn 4 b)+1+ln ((Dn 4 c++l.flatMap fun x=>KN:: .b 32::Dn 4 x)++[Hn])) by omega]at this
theorem ga{x:Xs}(h:WrX x):oV x:=by
 induction h with
 | @num n h1 h2=>
  refine GY (g:=5) rfl (XO (XK n) fun L i hk=> ?_) (fun _ h=>by omega)
  have:=Pr.nu (L:=L) (i:=i) (by rw[JS hk];simp[FR,Bs,PH])
  rwa [(Cm hk).2.2]at this
 | @txt t h=>
  refine GY (g:=5) rfl (XO (Wu t) fun L i hk=> ?_) (fun _ h=>by omega)
  have:=Pr.te (L:=L) (i:=i) (by rw[JS hk];simp[FR,Bs,cu])
  rwa [(Cm hk).2.1]at this
 | @nam t h=>
  refine GY (g:=5) rfl (XO (W0 t) fun L i hk=> ?_) (fun _ h=>by omega)
  have:=Pr.na (L:=L) (i:=i) (by rw[JS hk];exact mg h)
  rwa [(Cm hk).2.1]at this
 | @use op n t h h1 h2 h3=>
  have h5:Rd 5 (kX (.mk op t eB n [])) (.mk op t eB n []):=by
   intro L i ha _
   have eL:Cg (kX (.mk op t eB n []))=[EN (iG op),Dp ⟨#[40]⟩,EN t,Dp ⟨#[44]⟩,PH n,Dp ⟨#[41]⟩]:=by rw[Wn h];rfl
   have en:ln (kX (.mk op t eB n []))=6:=by unfold ln;rw[eL];rfl
   rw[en]
   rw[eL]at ha
   obtain⟨a1,a2⟩:=ha.hd
   obtain⟨b1,b2⟩:=a2.hd
   obtain⟨c1,c2⟩:=b2.hd
   obtain⟨d1,d2⟩:=c2.hd
   obtain⟨e1,e2⟩:=d2.hd
   obtain⟨f1,_⟩:=e2.hd
   refine Pr.usO (o:=op) (by rw[JS a1];rcases h with rfl|rfl<;>simp[FR,Bs,EN,Dp,iG,coB,suB,ml]) (j:=i+6) ?_
   have k1:Bs (Bp L (i+1)) 4 ⟨#[40]⟩=true:=by rw[DJ b1];simp[Bs,Dp]
   have k2:JV (Bp L (i+1+1))=true:=by rw[Xn c1];exact oN h1
   have k3:Bs (Bp L (i+1+2)) 4 ⟨#[44]⟩=true:=by rw[DJ d1];simp[Bs,Dp]
   have k4:M9 (Bp L (i+1+3)) 9007199254740992=true:=by rw[my e1];simp[M9,PH,h3]
   have k5:Bs (Bp L (i+1+4)) 4 ⟨#[41]⟩=true:=by rw[DJ f1];simp[Bs,Dp]
   unfold Mp
   rw[if_neg (by rw[k1];simp),if_neg (by rw[k2];simp),if_neg (by rw[k3];simp),if_neg (by rw[k4];simp),if_neg (by rw[k5];simp),(Cm c1).2.1,(Cm e1).2.2]
   rfl
  refine GY (g:=5) ?_ h5 (fun _ h=>by omega)
  rcases h with rfl|rfl<;>rfl
 | @one op a h ha ih=>
  have h5:Rd 5 (kX (.mk op eB eB 0 [a])) (.mk op eB eB 0 [a]):=by
   intro L i hat _
   obtain⟨y,T,hT,hu⟩: ∃y T,kX (.mk op eB eB 0 [a])=.x y::T∧Cg T=Cg (Dn 6 a)∧FR y=.one op:=by
    rcases h with rfl|rfl
    ·exact⟨_,_,XN a,rfl,by simp[FR,Bs,EN,noB]⟩
    ·exact⟨_,_,W5 a,rfl,by simp[FR,Bs,Dp]⟩
   have eL:Cg (kX (.mk op eB eB 0 [a]))=y::Cg (Dn 6 a):=by rw[hT,Cg,hu.1]
   have en:ln (kX (.mk op eB eB 0 [a]))=1+ln (Dn 6 a):=by unfold ln;rw[eL];simp;omega
   rw[en]
   rw[eL]at hat
   obtain⟨a1,a2⟩:=hat.hd
   have:=Pr.unO (by rw[JS a1];exact hu.2) ((ih 5 6 rfl (by omega)).1 L (i+1) a2 (SH.five _))
   rwa [Nat.add_assoc]at this
  refine GY (g:=5) ?_ h5 (fun _ h=>by omega)
  rcases h with rfl|rfl<;>rfl
 | @two op a b h ha hb iha ihb=>
  obtain⟨g,hg,g4,hle,hst,hop⟩:=sy_op h
  have eL:Cg (kX (.mk op eB eB 0 [a,b]))=Cg (Dn (L4 op) a)++(KP op::Cg (Dn (Ev op+1) b)):=by rw[Wh h,ER];rfl
  have en:ln (kX (.mk op eB eB 0 [a,b]))=ln (Dn (L4 op) a)+1+ln (Dn (Ev op+1) b):=by unfold ln;rw[eL];simp;omega
  by_cases g2:g=2
  ·subst g2
   rw[if_pos rfl]at hle hop
   refine GY (g:=2) hg ?_ (fun h=>absurd rfl h)
   intro L i hat hs
   rw[en]at hs⊢
   rw[eL]at hat
   obtain⟨a1,a2⟩:=hat.apT
   obtain⟨a3,a4⟩:=a2.hd
   rw[hle]at a1 a3 a4 hs⊢
   have e4:Ev op+1=4:=by rw[hg];rfl
   rw[e4]at a4 hs⊢
   have h1:=(iha 3 4 rfl (by omega)).1 L i a1 (hst.key a3)
   have h2:=(ihb 3 4 rfl (by omega)).1 L (i+ln (Dn 4 a)+1) a4 (by
    have:=hs.up (m:=3) (by omega)
    rwa [show i+(ln (Dn 4 a)+1+ln (Dn 4 b))=i+ln (Dn 4 a)+1+ln (Dn 4 b) by omega]at this)
   have:=Pr.cmO h1 (by rw[SO a3];exact hop) h2
   rwa [show i+ln (Dn 4 a)+1+ln (Dn 4 b)=i+(ln (Dn 4 a)+1+ln (Dn 4 b)) by omega]at this
  ·rw[if_neg g2]at hle hop
   have hq:Rq g (kX (.mk op eB eB 0 [a,b])) (.mk op eB eB 0 [a,b]):=by
    intro L i r hat hs hp
    rw[en]at hs hp
    rw[eL]at hat
    obtain⟨a1,a2⟩:=hat.apT
    obtain⟨a3,a4⟩:=a2.hd
    have e1:i+(ln (Dn (L4 op) a)+1+ln (Dn (Ev op+1) b))=i+ln (Dn (L4 op) a)+1+ln (Dn (Ev op+1) b):=by omega
    rw[e1]at hs hp
    have h2:=(ihb (g+1) (Ev op+1) (by rw[hg];omega) (by omega)).1 L (i+ln (Dn (L4 op) a)+1) a4 hs
    exact(iha g (L4 op) hle (by omega)).2 g2 (by omega) L i r a1 (hst.key a3) (.lpO (by rw[X1 a3];exact hop) h2 hp)
   exact GY hg (hq.rd g2 (by omega)) (fun _ _=>hq)
 | @inn a b l ha hb hl iha ihb ihl=>
  refine GY (g:=2) rfl ?_ (fun h=>absurd rfl h)
  intro L i hat hs
  have eL:Cg (kX (.mk 15 eB eB 0 (a::b::l)))=Cg (Dn 4 a)++(EN iB::Dp ⟨#[40]⟩::Cg ((Dn 4 b++l.flatMap fun x=>KN:: .b 32::Dn 4 x)++[Hn])):=by rw[XG,ER];rfl
  have en:ln (kX (.mk 15 eB eB 0 (a::b::l)))=ln (Dn 4 a)+2+ln ((Dn 4 b++l.flatMap fun x=>KN:: .b 32::Dn 4 x)++[Hn]):=by unfold ln;rw[eL];simp;omega
  rw[en]
  rw[eL]at hat
  obtain⟨a1,a2⟩:=hat.apT
  obtain⟨a3,a4⟩:=a2.hd
  obtain⟨a5,a6⟩:=a4.hd
  have st:SH 3 (EN iB):=.of (by simp) (by simp) (by simp) (fun _=>by simp[Fs,Bs,EN,iB]) (fun _=>by simp[Fs,Bs,EN,iB])
  have h1:=(iha 3 4 rfl (by omega)).1 L i a1 (st.key a3)
  have h2:=kG (L:=L) l b [a] (i+ln (Dn 4 a)+2) ihb ihl a6
  have:=Pr.inC h1 (by rw[SO a3];simp[Hw,Bs,EN,iB]) (by rw[ZL a3];simp[PJ,Bs,EN,iB]) (by rw[DJ a5];simp[Bs,Dp]) h2
  rwa [show i+ln (Dn 4 a)+2+ln ((Dn 4 b++l.flatMap fun x=>KN:: .b 32::Dn 4 x)++[Hn])=i+(ln (Dn 4 a)+2+ln ((Dn 4 b++l.flatMap fun x=>KN:: .b 32::Dn 4 x)++[Hn])) by omega]at this
end Go.Proofs.YtfphceknmgadgaaGreatDoor
namespace Go.Proofs.YtfphceknmgadgaaGreatDoor
open Go.Vm
set_option maxHeartbeats 2000000
set_option maxRecDepth 20000
def vV(L:List LR):Prop:= ∀i,KM (Bp L i)∨(Bp L i).k=0
theorem UY{s:ByteArray}(h0:(AV s).1=0):vV (AV s).2.2:=by
 obtain⟨K,hK,hw,_⟩:=FU h0
 intro i
 rw[hK]
 unfold Bp
 rw[List.getD_eq_getElem?_getD]
 cases h:(K++[Es s])[i]? with
 |none=>exact .inr rfl
 |some x=>
  rcases List.mem_append.1 (List.mem_of_getElem? h)with e|e
  ·exact .inl (hw x e)
  ·rw[List.mem_singleton.1 e];exact .inr rfl
theorem XC{x:LR}(h:KM x∨x.k=0)(hk:x.k=2):0≤x.n∧x.n≤9007199254740992:=by
 rcases h with(⟨k,_⟩|⟨k,_,m,h1,h2⟩|⟨k,_⟩|⟨k,_⟩)|k
 ·omega
 ·omega
 ·omega
 ·omega
 ·omega
theorem Vs: ∀{l:List UInt8},Dh (l++[34])=some l.length→l.all chB=true
 | [],_=>rfl
 | c ::l,h=>by
  simp only[List.cons_append,Dh,List.length_cons]at h
  by_cases h1:c.toNat=34
  ·rw[if_pos h1]at h;simp at h
  ·rw[if_neg h1]at h
   by_cases h2:JZ c=true
   ·rw[if_pos h2]at h;cases h
   ·rw[if_neg h2]at h
    cases h3:Dh (l++[34])with
    |none=>rw[h3]at h;cases h
    |some k=>
     rw[h3]at h
     have hk:k=l.length:=by simpa using h
     have:=Vs (l:=l) (by rw[h3,hk])
     rw[List.all_cons,this,Bool.and_true]
     unfold JZ at h2
     simp at h2
     unfold chB
     simp;omega
theorem vP{x:LR}(h:KM x∨x.k=0)(hk:x.k=3):Gq x.t=true:=by
 rcases h with(⟨k,_⟩|⟨k,_⟩|⟨k,_,h1,h2⟩|⟨k,_⟩)|k
 ·omega
 ·omega
 ·unfold Gq
  rw[Vs h2,←Ah]
  simp[h1]
 ·omega
 ·omega
theorem gY{x:LR}(h:KM x∨x.k=0)(hk:JV x=true):Hi x.t=true:=by
 unfold JV at hk
 simp only[Bool.and_eq_true,decide_eq_true_eq]at hk
 rcases h with(⟨k,_,h1,h2,c,l,h3,h4⟩|⟨k,_⟩|⟨k,_⟩|⟨k,_⟩)|k
 ·unfold Hi DS
  rw[hk.2,Bool.and_true]
  have hs:=Ah x.t
  simp only[Bool.and_eq_true,decide_eq_true_eq]
  refine⟨by rw[←hs,h3];simp,by omega, ?_,by rw[h2,hs]⟩
  rw[h3];exact h4
 ·omega
 ·omega
 ·omega
 ·omega
theorem nT{l:Nat}{x:LR}{o:Int}(h:Fs l x=some o):6≤o∧o≤14:=by
 unfold Fs at h
 repeat' split at h
 all_goals first|(cases h;done)|(cases h;omega)
theorem mu{x:LR}{o:Int}(h:Hw x=some o):6≤o∧o≤14:=by
 unfold Hw at h
 repeat' split at h
 all_goals first|(cases h;done)|(cases h;omega)
theorem OX:He eB=true:=by simp[He,eB,ml]
theorem kl{o:Int}{a b:Xs}(ho:6≤o∧o≤14)(ha:wX a=true)(hb:wX b=true):wX (HC o a b)=true:=by
 have hF:Cu o eB eB 0 2=true:=by
  unfold Cu
  rw[if_neg (by omega),if_neg (by omega),if_neg (by omega),if_neg (by omega),if_neg (by omega),if_pos ho,OX]
  simp
 simp only[HC,wX,wL,ha,hb,List.length_cons,List.length_nil,Nat.zero_add,Bool.and_true]
 exact hF
theorem wX_one{o:Int}{a:Xs}(ho:o=4∨o=5)(ha:wX a=true):wX (R7 o a)=true:=by
 have hF:Cu o eB eB 0 1=true:=by
  unfold Cu
  rw[if_neg (by omega),if_neg (by omega),if_neg (by omega),if_neg (by omega),if_pos ho,OX]
  simp
 simp only[R7,wX,wL,ha,List.length_cons,List.length_nil,Nat.zero_add,Bool.and_true]
 exact hF
theorem uk{l:List Xs}(h2:2≤l.length)(h: ∀x∈l,wX x=true):wX (.mk 15 eB eB 0 l)=true:=by
 have hF:Cu 15 eB eB 0 l.length=true:=by
  unfold Cu
  rw[if_neg (by omega),if_neg (by omega),if_neg (by omega),if_neg (by omega),if_neg (by omega),if_neg (by omega),OX]
  simp[h2]
 rw[wX,hF,NU,Bool.true_and,List.all_eq_true]
 exact h
theorem nH{x:LR}{o:Int}(h:FR x=.one o):(o=4∨o=5)∧x.k≠0:=by
 unfold FR at h
 split at h
 ·rename_i hx;cases h;exact⟨by omega,by rw[DK hx];decide⟩
 split at h
 ·rename_i hx;cases h;exact⟨by omega,by rw[DK hx];decide⟩
 repeat' split at h
 all_goals cases h
theorem oM{x:LR}{o:Int}(h:FR x=.use o):o=16∨o=17:=by
 unfold FR at h
 repeat' split at h
 all_goals first|(cases h;done)|(cases h;omega)
theorem oU{x:LR}(h:FR x=.num):x.k=2:=by
 unfold FR at h
 repeat' split at h
 all_goals first|(cases h;done)|assumption
theorem mr{x:LR}(h:FR x=.txt):x.k=3:=by
 unfold FR at h
 repeat' split at h
 all_goals first|(cases h;done)|assumption
theorem nZ{x:LR}(h:FR x=.nam):JV x=true:=by
 unfold FR at h
 repeat' split at h
 all_goals first|(cases h;done)|assumption
theorem u7{L:List LR}{i j:Nat}{nm:ByteArray}{n:Int}(hL:vV L)(h:Mp L i=(0,j,nm,n)):j=i+5∧Hi nm=true∧0≤n∧n≤9007199254740992:=by
 unfold Mp at h
 split at h
 ·simp at h
 split at h
 ·simp at h
 rename_i h2
 split at h
 ·simp at h
 split at h
 ·simp at h
 rename_i h4
 split at h
 ·simp at h
 simp only[Prod.mk.injEq,true_and]at h
 obtain⟨rfl,rfl,rfl⟩:=h
 have h4':M9 (Bp L (i+3)) 9007199254740992=true:=by simpa using h4
 unfold M9 at h4'
 simp only[Bool.and_eq_true,decide_eq_true_eq]at h4'
 have:=XC (hL (i+3)) h4'.1
 exact⟨rfl,gY (hL _) (by simpa using h2),this.1,this.2⟩
theorem HP(k:Int)(p:Int×List UInt8):(WS k p).length≤p.2.length+2:=by
 unfold WS
 split
 ·omega
 ·simp
theorem fJ(op:Int):(Hh op).length≤3:=by
 unfold Hh
 repeat' split
 all_goals simp
theorem vS(a:Xs)(k:Int):(Wd (tL [a]) 0 k).length≤(tX a).length+2:=by
 rw[tL,tL];exact HP _ _
theorem nN(a b:Xs)(k:Int):(Wd (tL [a,b]) 0 k).length≤(tX a).length+2:=by
 rw[tL];exact HP _ _
theorem mo(a b:Xs)(k:Int):(Wd (tL [a,b]) 1 k).length≤(tX b).length+2:=by
 rw[tL,tL];exact HP _ _
theorem mH{o:Int}(ho:6≤o∧o≤14)(a b:Xs):(tX (HC o a b)).length≤(tX a).length+(tX b).length+9:=by
 have h1:=nN a b (L4 o)
 have h2:=mo a b (Ev o+1)
 have h3:=fJ o
 rw[HC,tX,CP,if_neg (by omega),if_neg (by omega),if_neg (by omega),if_neg (by omega),if_neg (by omega),if_neg (by omega),if_neg (by omega),if_neg (by omega)]
 simp only[List.length_append,List.length_cons,List.length_nil]
 omega
theorem tx_one{o:Int}(ho:o=4∨o=5)(a:Xs):(tX (R7 o a)).length≤(tX a).length+6:=by
 have h1:=vS a 6
 rw[R7,tX]
 rcases ho with rfl|rfl
 ·rw[CP,if_neg (by decide),if_neg (by decide),if_neg (by decide),if_neg (by decide),if_neg (by decide),if_pos rfl]
  simp only[List.length_append,List.length_cons,List.length_nil];omega
 ·rw[CP,if_neg (by decide),if_neg (by decide),if_neg (by decide),if_neg (by decide),if_neg (by decide),if_neg (by decide),if_pos rfl]
  simp only[List.length_cons];omega
def EY:List Xs→Nat
 | []=>0
 |x::l=>(tX x).length+4+EY l
theorem O2(a b:List Xs):EY (a++b)=EY a+EY b:=by
 induction a with
 |nil=>simp[EY]
 |cons x l ih=>simp only[List.cons_append,EY,ih];omega
theorem SN: ∀l:List Xs,(MS (tL l)).length≤EY l
 | []=>by simp[tL,MS,EY]
 |x::l=>by
  have h:=SN l
  have h1:=HP 4 (opO x,tX x)
  unfold MS at h⊢
  rw[tL,List.flatMap_cons,List.length_append,List.length_append,EY]
  simp only[List.length_cons,List.length_nil]at h1⊢
  omega
theorem tx_inn(l:List Xs):(tX (.mk 15 eB eB 0 l)).length≤EY l+8:=by
 rw[tX,CP,if_neg (by decide),if_neg (by decide),if_neg (by decide),if_neg (by decide),if_neg (by decide),if_neg (by decide),if_neg (by decide),if_pos rfl]
 cases l with
 |nil=>simp[tL,Wd,WS,Mn,EY,Ev]
 | cons a l=>
  have h0:(Wd (tL (a::l)) 0 4).length≤(tX a).length+2:=by rw[tL];exact HP _ _
  have h1:(Mn ((tL (a::l)).drop 1)).length≤EY l:=by
   rw[tL,List.drop_one,List.tail_cons]
   cases l with
   |nil=>simp[tL,Mn]
   |cons b l=>
    have h2:=HP 4 (opO b,tX b)
    have h3:=SN l
    rw[tL,Mn,List.length_append,EY]
    simp only at h2
    omega
  rw[EY]
  simp only[List.length_append,List.length_cons,List.length_nil]
  omega
theorem mB{t:ByteArray}(h:Hi t=true):t.data.toList.length≤16:=by
 unfold Hi DS at h
 simp only[Bool.and_eq_true,decide_eq_true_eq]at h
 rw[←ByteArray.toList_eq,Ah];exact h.1.2.1
theorem vK{o:Int}(ho:o=16∨o=17){nm:ByteArray}{n:Int}(h:Hi nm=true)(h0:0≤n)(h1:n≤9007199254740992):(tX (.mk o nm eB n [])).length≤50:=by
 have e1:=mB h
 have e2:=Kn (n:=n) (by omega) (by omega)
 rw[tX]
 rcases ho with rfl|rfl
 ·rw[CP,if_neg (by decide),if_neg (by decide),if_neg (by decide),if_pos rfl]
  simp only[List.length_append,List.length_cons,List.length_nil];omega
 ·rw[CP,if_neg (by decide),if_neg (by decide),if_neg (by decide),if_neg (by decide),if_pos rfl]
  simp only[List.length_append,List.length_cons,List.length_nil];omega
theorem tx_num{n:Int}(h0:0≤n)(h1:n≤9007199254740992):(tX (.mk 1 eB eB n [])).length≤20:=by
 rw[tX,CP,if_pos rfl];exact Kn (by omega) (by omega)
theorem tx_txt{t:ByteArray}(h:Gq t=true):(tX (.mk 2 eB t 0 [])).length≤102:=by
 unfold Gq at h
 simp only[Bool.and_eq_true,decide_eq_true_eq]at h
 have:=Ah t
 rw[tX,CP,if_neg (by decide),if_pos rfl,←ByteArray.toList_eq]
 simp only[List.length_append,List.length_cons,List.length_nil];omega
theorem vE{t:ByteArray}(h:Hi t=true):(tX (.mk 3 t eB 0 [])).length≤16:=by
 rw[tX,CP,if_neg (by decide),if_neg (by decide),if_pos rfl];exact mB h
def preQ:Qr→Prop
 | .lv _=>True
 | .lp _ t=>wX t=true
 | .ch xs=>xs≠[]∧ ∀x∈xs,wX x=true
def GK:Qr→Nat
 | .lv _=>0
 | .lp _ t=>(tX t).length+2
 | .ch xs=>EY xs+20
def outQ(q:Qr)(i:Nat):Rz→Prop
 | .ok t j=>wX t=true∧(tX t).length+2+130*i≤GK q+130*j
 | .er _ _=>True
theorem pr_w{L:List LR}(hL:vV L){q:Qr}{i:Nat}{r:Rz}(h:Pr L q i r):preQ q→outQ q i r:=by
 induction h with
 |opE _ _ _ _=>intro _;trivial
 | @opO l i j t r a b _ _ ih1 ih2=>
  intro _
  obtain⟨w1,w2⟩:=ih1 trivial
  have:=ih2 w1
  cases r with
  |er=>trivial
  |ok u k=>obtain⟨w3,w4⟩:=this;simp only[GK]at w2 w4;exact⟨w3,by simp only[GK];omega⟩
 |lpN a=>intro h;exact⟨h,by simp only[GK];omega⟩
 |lpE _ _ _=>intro _;trivial
 | @lpO l j k t u o r a _ _ ih1 ih2=>
  intro h
  have ho:=nT a
  obtain⟨w1,w2⟩:=ih1 trivial
  have:=ih2 (kl ho h w1)
  have h3:=mH ho t u
  cases r with
  |er=>trivial
  |ok v m=>obtain⟨w3,w4⟩:=this;simp only[GK]at w2 w4 ⊢;exact⟨w3,by simp only[GK];omega⟩
 |cmE _ _=>intro _;trivial
 |cmN _ _ _ ih=>intro _;exact ih trivial
 |cmF _ _ _ _ _=>intro _;trivial
 | @cmO i j k t u o _ a _ ih1 ih2=>
  intro _
  have ho:=mu a
  obtain⟨w1,w2⟩:=ih1 trivial
  obtain⟨w3,w4⟩:=ih2 trivial
  have h3:=mH ho t u
  simp only[GK]at w2 w4
  exact⟨kl ho w1 w3,by simp only[GK];omega⟩
 |inP _ _ _ _ _=>intro _;trivial
 | @inC i j t r _ a b c _ ih1 ih2=>
  intro _
  obtain⟨w1,w2⟩:=ih1 trivial
  have:=ih2 ⟨by simp,by simpa using w1⟩
  cases r with
  |er=>trivial
  |ok u k=>obtain⟨w3,w4⟩:=this;simp only[GK,EY]at w2 w4;exact⟨w3,by simp only[GK];omega⟩
 |chE _ _=>intro _;trivial
 | @chM i j xs u r _ a _ ih1 ih2=>
  intro h
  obtain⟨w1,w2⟩:=ih1 trivial
  have:=ih2 ⟨by simp,fun x hx=>by
   rcases List.mem_append.1 hx with e|e
   ·exact h.2 x e
   ·rw[List.mem_singleton.1 e];exact w1⟩
  cases r with
  |er=>trivial
  |ok v k=>obtain⟨w3,w4⟩:=this;simp only[GK,O2,EY]at w2 w4;exact⟨w3,by simp only[GK];omega⟩
 | @chO i j xs u _ a b ih=>
  intro h
  obtain⟨w1,w2⟩:=ih trivial
  have hp:0<xs.length:=List.length_pos_iff.2 h.1
  refine⟨uk (by rw[List.length_append];simp;omega) fun x hx=> ?_, ?_⟩
  ·rcases List.mem_append.1 hx with e|e
   ·exact h.2 x e
   ·rw[List.mem_singleton.1 e];exact w1
  ·have h3:=tx_inn (xs++[u])
   rw[O2]at h3
   simp only[GK,EY]at w2 h3⊢
   omega
 |chB _ _ _ _=>intro _;trivial
 | @unO i j t o a _ ih=>
  intro _
  obtain⟨w1,w2⟩:=ih trivial
  have ho:=(nH a).1
  have h3:=tx_one ho t
  simp only[GK]at w2
  exact⟨wX_one ho w1,by simp only[GK];omega⟩
 |unE _ _ _=>intro _;trivial
 | @usO i j o n nm a b=>
  intro _
  have ho:=oM a
  obtain⟨rfl,h1,h2,h3⟩:=u7 hL b
  have h4:=vK ho h1 h2 h3
  refine⟨?_,by simp only[GK];omega⟩
  have hF:Cu o nm eB n 0=true:=by
   unfold Cu
   rw[if_neg (by omega),if_neg (by omega),if_neg (by omega),if_pos ho,OX,h1]
   simp[h2,h3]
  simp only[wX,wL,List.length_nil,Bool.and_true]
  exact hF
 |usE _ _ _=>intro _;trivial
 |paE _ _ _=>intro _;trivial
 |paO _ _ _ ih=>intro _;obtain⟨w1,w2⟩:=ih trivial;simp only[GK]at w2;exact⟨w1,by simp only[GK];omega⟩
 |paB _ _ _ _=>intro _;trivial
 | @nu i a=>
  intro _
  obtain⟨h1,h2⟩:=XC (hL i) (oU a)
  have h4:=tx_num h1 h2
  refine⟨?_,by simp only[GK];omega⟩
  have hF:Cu 1 eB eB (Bp L i).n 0=true:=by
   unfold Cu
   rw[if_pos rfl,OX]
   simp[h1,h2]
  simp only[wX,wL,List.length_nil,Bool.and_true]
  exact hF
 | @te i a=>
  intro _
  have h1:=vP (hL i) (mr a)
  have h4:=tx_txt h1
  refine⟨?_,by simp only[GK];omega⟩
  have hF:Cu 2 eB (Bp L i).t 0 0=true:=by
   unfold Cu
   rw[if_neg (by decide),if_pos rfl,OX,h1]
   simp
  simp only[wX,wL,List.length_nil,Bool.and_true]
  exact hF
 | @na i a=>
  intro _
  have h1:=gY (hL i) (nZ a)
  have h4:=vE h1
  refine⟨?_,by simp only[GK];omega⟩
  have hF:Cu 3 (Bp L i).t eB 0 0=true:=by
   unfold Cu
   rw[if_neg (by decide),if_neg (by decide),if_pos rfl,OX,h1]
   simp
  simp only[wX,wL,List.length_nil,Bool.and_true]
  exact hF
 |ba _=>intro _;trivial
theorem pxo_w{s:ByteArray}{a:Nat}{t:Xs}(h:PxO s 0 a t):wX t=true∧(tX t).length≤600000:=by
 generalize he:(0:Int)=e at h
 cases h with
 |scan h0=>exact absurd he.symm h0
 |er _ h1=>exact absurd he.symm h1
 |more=>cases he
 | @ok _ j x h0 h1 h2 h3=>
  obtain⟨K,_,_,_,hl⟩:=FU h0
  obtain⟨w1,w2⟩:=pr_w (UY h0) h1 trivial
  simp only[GK]at w2
  have:=(List.getElem?_eq_some_iff.1 h2).1
  exact⟨w1,by omega⟩
theorem SF(x:Xs):Dn 1 x=kX x:=by unfold Dn cz;rw[if_pos (SK _).1]
theorem Se(t:ByteArray):Bs (EN t) 1 t=true:=by simp[Bs,EN]
theorem Sq(t:ByteArray):Bs (Dp t) 4 t=true:=by simp[Bs,Dp]
theorem oD{T:List Tk}{L K:List LR}{e:LR}(hL:L=K++[e])(hK:K.map D6=(Cg T).map D6)(he:e.k=0):N9 L 0 (Cg T)∧(Bp L (0+ln T)).k=0:=by
 have hlen:K.length=ln T:=by have:=congrArg List.length hK;simpa[ln]using this
 subst hL
 refine⟨fun j x hx=> ?_, ?_⟩
 ·have h1:(K.map D6)[j]? =some (D6 x):=by rw[hK,List.getElem?_map,hx];rfl
  rw[List.getElem?_map]at h1
  cases hk:K[j]? with
  |none=>rw[hk]at h1;cases h1
  |some y=>
   rw[hk]at h1
   have hj:=(List.getElem?_eq_some_iff.1 hk).1
   rw[F6 (x:=y) (by rw[Nat.zero_add,List.getElem?_append_left hj];exact hk)]
   simpa using h1
 ·rw[F6 (x:=e) (by rw[Nat.zero_add,←hlen,List.getElem?_append_right (Nat.le_refl _)];simp)]
  exact he
theorem nR{x:LR}(h:x.k=0):SH 0 x:=by
 have: ∀(k:Int) (t:ByteArray),k≠0→Bs x k t=false:=fun k t hk=>by unfold Bs;rw[h];simp;intro e;exact absurd e.symm hk
 refine .of ?_ ?_ ?_ ?_ ?_<;>intro _<;>simp[Fs,Hw,PJ,this]
theorem jg{t:Xs}(h:wX t=true)(hl:(tX t).length≤4000):PxO (bs (tX t)) 0 0 t:=by
 have hw:=Lj t h
 obtain⟨K,k1,k2⟩:=jd (kX t) (okX hw [] (.inl rfl)) (by rw[GM];exact hl)
 rw[GM]at k1
 obtain⟨a1,a2⟩:=oD (L:=(AV (bs (tX t))).2.2) (by rw[k1]) k2 rfl
 have hs:SH 0 (Bp (AV (bs (tX t))).2.2 (0+ln (kX t))):=by
  exact nR a2
 have hx:=(ga hw 0 1 rfl (by omega)).1 _ 0 (by rw[SF];exact a1) (by rw[SF];exact hs)
 rw[SF,Nat.zero_add]at hx
 rw[Nat.zero_add]at a2
 have hlen:K.length=ln (kX t):=by have:=congrArg List.length k2;simpa[ln]using this
 obtain⟨x,hx1,hx2⟩:=DR (L:=(AV (bs (tX t))).2.2) (j:=ln (kX t)) (by rw[k1];simp[hlen])
 exact .ok (by rw[k1]) hx hx1 (by rw[←hx2];exact a2)
theorem ux{s:ByteArray}(h:Hi s=true):s.data.toList≠[]:=by
 intro e
 unfold Hi DS at h
 simp only[Bool.and_eq_true,decide_eq_true_eq]at h
 have:=Ah s
 rw[ByteArray.toList_eq,e]at this
 simp at this;omega
theorem tX_ne{t:Xs}(h:wX t=true):tX t≠[]:=by
 have hw:=Lj t h
 clear h
 cases hw with
 |num=>rw[tX,CP,if_pos rfl];exact R3 _
 |txt=>rw[tX,CP,if_neg (by decide),if_pos rfl];simp
 |nam h=>rw[tX,CP,if_neg (by decide),if_neg (by decide),if_pos rfl];exact ux h
 |use h=>rw[tX];rcases h with rfl|rfl<;>simp[CP]
 |one h=>rw[tX];rcases h with rfl|rfl<;>simp[CP]
 |two h=>rw[tX,CP,if_neg (by omega),if_neg (by omega),if_neg (by omega),if_neg (by omega),if_neg (by omega),if_neg (by omega),if_neg (by omega),if_neg (by omega)];simp
 |inn=>rw[tX];simp[CP]
end Go.Proofs.YtfphceknmgadgaaGreatDoor
