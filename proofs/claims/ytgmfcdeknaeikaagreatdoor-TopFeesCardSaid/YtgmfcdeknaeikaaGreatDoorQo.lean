/-
Texts of lexemes; expressions are parsed back from their text.
Conditions: none.
-/
import Derived.Test.YtgmfcdeknaeikaaGreatDoorQn
set_option linter.unusedSimpArgs false
set_option linter.unusedVariables false
namespace Go.Proofs.YtgmfcdeknaeikaaGreatDoor
open Go.Vm
set_option maxHeartbeats 2000000
set_option maxRecDepth 20000
def Dk(r:List UInt8):Prop:=r=[]∨ ∃c l,r=c::l∧BG c.toNat=false
def Ul(x:LR)(r:List UInt8):Prop:=(x.k=1∨x.k=2→Dk r)∧(x.k=4→x.t.toList=[60]→r.head? ≠some 61)
theorem H7{r:List UInt8}(h:Dk r): ∀w:List UInt8,Ax w=w.length→Ax (w++r)=w.length
 | [],_=>by rcases h with rfl|⟨c,l,rfl,h⟩<;>simp[Ax, *]
 | c::w,hw=>by
  simp only[Ax,List.length_cons]at hw
  by_cases hc:BG c.toNat=true
  ·rw[if_pos hc]at hw
   simp only[List.cons_append,Ax,hc,if_true,List.length_cons]
   rw[H7 h w (by omega)]
  ·rw[if_neg hc]at hw;omega
theorem bT{c:UInt8}{r:List UInt8}(hm:Gb c.toNat=true)(h:c=60→r.head? ≠some 61):DJ (c::r)=false:=by
 have h33:c≠33:=fun e=>by subst e;exact absurd hm (by decide+kernel)
 cases r with
 |nil=>simp[DJ,List.isPrefixOf]
 | cons d r=>
  by_cases h60:c=60
  ·have:=h h60
   simp at this
   subst h60
   have h61: ¬(61:UInt8)=d:=fun e=>this e.symm
   simp[DJ,List.isPrefixOf,h61]
  ·have h1: ¬(33:UInt8)=c:=fun e=>h33 e.symm
   have h2: ¬(60:UInt8)=c:=fun e=>h60 e.symm
   simp[DJ,List.isPrefixOf,h1,h2]
theorem Nk{x:LR}(hx:JG x){s:ByteArray}{i:Nat}{r:List UInt8}(h:s.toList.drop i=Ad x++r)(hr:Ul x r):Al s i=⟨x.k,x.t,x.n,i,i+(Ad x).length,0⟩:=by
 rcases hx with⟨k,hn,h16,hw,c,l,h1,h2⟩|⟨k,ht,m,hm,hle⟩|⟨k,hn,h100,hl⟩|⟨k,hn,hm⟩
 ·have hf:Ad x=x.t.toList:=by simp[Ad,k]
  rw[hf]at h⊢
  have e1:=H7 (hr.1 (.inl k)) _ hw
  have e2:=RY h
  obtain⟨_,_,_,_,n33,n60⟩:=GH c.toNat (CZ c) h2
  have e3:s.extract i (i+x.t.toList.length)=x.t:=DD e2
  rw[h1]at h e1 h16 e3⊢
  unfold Al
  rw[h]
  simp only[List.cons_append]at e1⊢
  rw[if_neg (by rw[Oy n33 n60];simp),if_pos h2,e1,if_neg (by omega),e3,k,hn]
 ·have hf:Ad x=Lib.decDigits m:=by simp[Ad,k,hm,Lib.itoa]
  rw[hf]at h⊢
  have e1:=H7 (hr.1 (.inr k)) _ (Mi _ (DQ m))
  have e2:=RY h
  have hnum:=jH hle
  cases hd:Lib.decDigits m with
  |nil=>exact absurd hd (Hm m)
  |cons c l=>
   have h1:=DQ m
   rw[hd]at h h1 e1 e2 hnum
   rw[CV,Bool.and_eq_true]at h1
   obtain⟨nl,_,_,_,n33,n60,_⟩:=EW c.toNat (CZ c) h1.1
   unfold Al
   rw[h]
   simp only[List.cons_append]at e1⊢
   rw[if_neg (by rw[Oy n33 n60];simp),if_neg (by rw[nl];simp),if_pos h1.1,e1,e2,hnum,if_neg (by simp),k,ht,hm]
 ·have hf:Ad x=34::(x.t.toList++[34]):=by simp[Ad,k]
  rw[hf]at h⊢
  have h':s.toList.drop (i+1)=x.t.toList++34::r:=by rw[←List.drop_drop,h];simp
  have e2:s.extract (i+1) (i+1+x.t.toList.length)=x.t:=DD (RY h')
  unfold Al
  rw[h]
  simp only[List.cons_append]
  rw[if_neg (by rw[Oy (by decide) (by decide)];simp),if_neg (by decide),if_neg (by decide),if_pos (by decide)]
  unfold Fg
  rw[h',Nm _ hl]
  simp only
  rw[if_neg (by omega),e2,k,hn]
  simp only[List.length_cons,List.length_append,List.length_nil,LR.mk.injEq,and_true,true_and]
  omega
 ·have hf:Ad x=x.t.toList:=by simp[Ad,k]
  rw[hf]at h⊢
  have e3:s.extract i (i+x.t.toList.length)=x.t:=DD (RY h)
  rcases hm with hm|hm|⟨c,hm,hc⟩
  ·rw[hm]at h e3⊢
   unfold Al
   rw[h]
   simp only[List.cons_append,List.nil_append]
   rw[if_pos (by simp[DJ,List.isPrefixOf]),k,hn]
   simp only[List.length_cons,List.length_nil]at e3⊢
   rw[e3]
  ·rw[hm]at h e3⊢
   unfold Al
   rw[h]
   simp only[List.cons_append,List.nil_append]
   rw[if_pos (by simp[DJ,List.isPrefixOf]),k,hn]
   simp only[List.length_cons,List.length_nil]at e3⊢
   rw[e3]
  ·have hs:=hr.2 k
   rw[hm]at h e3 hs⊢
   obtain⟨nl,nd,nq,_⟩:=Qf c.toNat (CZ c) hc
   have hp:DJ (c::r)=false:=bT hc fun e=>hs (by rw[e])
   unfold Al
   rw[h]
   simp only[List.cons_append,List.nil_append]
   rw[if_neg (by rw[hp];simp),if_neg (by rw[nl];simp),if_neg (by rw[nd];simp),if_neg nq,if_pos hc,k,hn]
   simp only[List.length_cons,List.length_nil]at e3⊢
   rw[e3]
inductive Tk where
 |x (r:LR)
 |b (c:UInt8)
def BZ:List Tk→List UInt8
 | []=>[]
 | .x r::l=>Ad r++BZ l
 | .b c::l=>c::BZ l
def BS:List Tk→List LR
 | []=>[]
 | .x r::l=>r::BS l
 | .b _::l=>BS l
def J3:List Tk→List UInt8→Prop
 | [],_=>True
 | .x r::l,w=>JG r∧Ul r (BZ l++w)∧J3 l w
 | .b c::l,w=>CL c.toNat=true∧J3 l w
theorem CY: ∀A B:List Tk,BZ (A++B)=BZ A++BZ B
 | [],B=>rfl
 | .x r::A,B=>by simp[BZ,CY A B]
 | .b c::A,B=>by simp[BZ,CY A B]
theorem DA: ∀A B:List Tk,BS (A++B)=BS A++BS B
 | [],B=>rfl
 | .x r::A,B=>by simp[BS,DA A B]
 | .b c::A,B=>by simp[BS,DA A B]
theorem CP(w:List UInt8): ∀A B:List Tk,J3 (A++B) w↔J3 A (BZ B++w)∧J3 B w
 | [],B=>by simp[J3]
 | .x r::A,B=>by simp[J3,CP w A B,CY,and_assoc]
 | .b c::A,B=>by simp[J3,CP w A B,and_assoc]
theorem PO(s:ByteArray): ∀(L:List Tk) (f i:Nat),s.size<i+Bi false (s.toList.drop i)+f→i≤s.size→J3 L []→s.toList.drop i=BZ L→ ∃K,A9 s f (i+Bi false (s.toList.drop i))=(0,0,K++[DS s])∧K.map Cl=(BS L).map Cl
 | [],f,i,h,hi,_,hd=>by
  have hn:i=s.size:=by
   have:=congrArg List.length hd
   rw[List.length_drop,AP]at this
   simp[BZ]at this;omega
  rw[hd]at h⊢
  simp only[BZ,Bi,Nat.add_zero]at h⊢
  cases f with
  |zero=>omega
  |succ f=>exact⟨[],by rw[C0 f (by omega)];rfl,rfl⟩
 | .b c::L,f,i,h,hi,⟨hc,hw⟩,hd=>by
  obtain⟨hp,_,hl',hsl,hb⟩:=Bj hd
  have h35:c.toNat≠35:=fun e=>by rw[e]at hc;exact absurd hc (by decide)
  have hk:Bi false (s.toList.drop i)=1+Bi false (s.toList.drop (i+1)):=by
   rw[hd,hl']
   simp only[BZ,Bi,hc,h35,Bool.or_true,decide_false,Bool.or_false,Bool.false_and,if_true]
   omega
  rw[hk]at h⊢
  rw[show i+(1+Bi false (s.toList.drop (i+1)))=i+1+Bi false (s.toList.drop (i+1)) by omega]
  exact PO s L f (i+1) (by omega) (by omega) hw hl'
 | .x r::L,f,i,h,hi,⟨wx,ws,wL⟩,hd=>by
  rw[List.append_nil]at ws
  have hr:s.toList.drop i=Ad r++BZ L:=hd
  have hk:Bi false (s.toList.drop i)=0:=by rw[hr];exact U8 wx _
  have hlex:=Nk wx hr ws
  have hpos:0<(Ad r).length:=by obtain⟨c,l,e,_⟩:=KD wx;rw[e];simp
  have hlen:=congrArg List.length hr
  rw[List.length_drop,AP,List.length_append]at hlen
  have hd2:s.toList.drop (i+(Ad r).length)=BZ L:=by rw[←List.drop_drop,hr];simp
  rw[hk]at h⊢
  rw[Nat.add_zero]at h⊢
  cases f with
  |zero=>omega
  |succ f=>
   have hk2:=D8 false (s.toList.drop (i+(Ad r).length))
   obtain⟨K,k1,k2⟩:=PO s L f (i+(Ad r).length) (by omega) (by omega) wL hd2
   rw[DC f (by omega) (by rw[hlex]) (j:=i+(Ad r).length+Bi false (s.toList.drop (i+(Ad r).length))) (by rw[hlex]),k1,hlex]
   exact⟨⟨r.k,r.t,r.n,i,i+(Ad r).length,0⟩::K,rfl,by simp only[List.map_cons,k2,BS];rfl⟩
theorem df(L:List Tk)(h:J3 L [])(hl:(BZ L).length≤4000): ∃K,AG (bs (BZ L))=(0,0,K++[DS (bs (BZ L))])∧K.map Cl=(BS L).map Cl:=by
 have hs:=Ab (BZ L)
 unfold AG
 rw[if_neg (by omega)]
 have:=PO (bs (BZ L)) L ((bs (BZ L)).size+1) 0 (by omega) (by omega) h (by rw[Ar,List.drop_zero])
 rw[List.drop_zero,Nat.zero_add]at this
 exact this
def C4(t:ByteArray):LR:=⟨1,t,0,0,0,0⟩
def Mq(n:Int):LR:=⟨2,⟨#[]⟩,n,0,0,0⟩
def YP(t:ByteArray):LR:=⟨3,t,0,0,0,0⟩
def Cb(t:ByteArray):LR:=⟨4,t,0,0,0,0⟩
theorem GK(t:ByteArray):Ad (C4 t)=t.toList:=by simp[Ad,C4]
theorem Bo(t:ByteArray):Ad (Cb t)=t.toList:=by simp[Ad,Cb]
theorem EA(n:Int):Ad (Mq n)=Lib.itoa n:=by simp[Ad,Mq]
theorem kM(t:ByteArray):Ad (YP t)=34::(t.toList++[34]):=by simp[Ad,YP]
theorem GC{t:ByteArray}(h:Bp t=true):JG (C4 t):=by
 unfold Bp at h
 simp only[Bool.and_eq_true,decide_eq_true_eq]at h
 obtain⟨h1,h2,h3,h4⟩:=h
 refine .inl ⟨rfl,rfl,by show t.toList.length≤16;rw[AP];exact h2,by show Ax t.toList=t.toList.length;rw[AP];exact h4, ?_⟩
 show∃c l,t.toList=c::l∧_
 cases hl:t.toList with
 |nil=>rw[hl]at h3;cases h3
 |cons c l=>rw[hl]at h3;exact⟨c,l,rfl,h3⟩
theorem VP{n:Int}(h0:0≤n)(h:n≤9007199254740992):JG (Mq n):=.inr (.inl ⟨rfl,rfl,n.toNat,by show n=_;omega,by omega⟩)
theorem Nl: ∀{l:List UInt8},l.all chB=true→Ci (l++[34])=some l.length
 | [],_=>rfl
 |c::l,h=>by
  rw[List.all_cons,Bool.and_eq_true]at h
  have:=Nl h.2
  have hc:=h.1
  unfold chB at hc
  simp only[Bool.and_eq_true,decide_eq_true_eq]at hc
  have hb:J6 c=false:=by unfold J6;simp;omega
  simp only[List.cons_append,Ci,hb,this,hc.2,if_false,Bool.false_eq_true,List.length_cons]
theorem r9{t:ByteArray}(h:HU t=true):JG (YP t):=by
 unfold HU at h
 simp only[Bool.and_eq_true,decide_eq_true_eq]at h
 exact .inr (.inr (.inl ⟨rfl,rfl,by show t.toList.length≤100;rw[AP];exact h.1,Nl h.2⟩))
theorem Ez{c:UInt8}(h:Gb c.toNat=true):JG (Cb ⟨#[c]⟩):=.inr (.inr (.inr ⟨rfl,rfl,.inr (.inr ⟨c,by rw[show(Cb ⟨#[c]⟩).t=⟨#[c]⟩ from rfl,ByteArray.toList_eq],h⟩)⟩))
theorem Et{t:ByteArray}(h:t.toList≠[60])(r:List UInt8):Ul (Cb t) r:=by
 unfold Ul Cb
 exact⟨fun e=>by simp at e,fun _ e=>absurd e h⟩
theorem ql(t:ByteArray)(r:List UInt8):Ul (YP t) r:=by
 unfold Ul YP
 exact⟨fun e=>by simp at e,fun e=>by simp at e⟩
theorem FT(t:ByteArray){r:List UInt8}(h:Dk r):Ul (C4 t) r:=by
 unfold Ul C4
 exact⟨fun _=>h,fun e=>by simp at e⟩
theorem Um(n:Int){r:List UInt8}(h:Dk r):Ul (Mq n) r:=by
 unfold Ul Mq
 exact⟨fun _=>h,fun e=>by simp at e⟩
theorem C1{c:UInt8}(h:BG c.toNat=false)(l:List UInt8):Dk (c::l):=.inr ⟨c,l,rfl,h⟩
set_option maxHeartbeats 2000000
set_option maxRecDepth 20000
theorem Xs.ind{P:Xs→Prop}(h: ∀op nm tx n args,(∀a∈args,P a)→P (.mk op nm tx n args))(x:Xs):P x:=
 Xs.rec (motive_1:=P) (motive_2:=fun l=> ∀a∈l,P a) (fun op nm tx n args ih=>h op nm tx n args ih) (fun a ha=>by cases ha) (fun a l ha hl b hb=>by
  rcases List.mem_cons.1 hb with e|e
  ·rw[e];exact ha
  ·exact hl b e) x
def sT:ByteArray:=⟨#[99,111,117,110,116]⟩
def sd:ByteArray:=⟨#[115,117,109]⟩
def sY:ByteArray:=⟨#[110,111,116]⟩
def iB:ByteArray:=⟨#[105,110]⟩
def Jx(op:Int):LR:=if op=7∨op=6 then C4 (bs (Gj op))else Cb (bs (Gj op))
def Qn:Tk:=.x (Cb ⟨#[40]⟩)
def Gr:Tk:=.x (Cb ⟨#[41]⟩)
def JB:Tk:=.x (Cb ⟨#[44]⟩)
def YN(k:Int)(p:Int×List Tk):List Tk:=if k≤Ga p.1 then p.2 else Qn::(p.2++[Gr])
def eo(l:List (Int×List Tk))(i:Nat)(k:Int):List Tk:=YN k (l.getD i (0,[]))
def aO(l:List (Int×List Tk)):List Tk:=l.flatMap fun p=>JB:: .b 32::YN 4 p
def aM:List (Int×List Tk)→List Tk
 | []=>[]
 |p::l=>YN 4 p++aO l
def Gq(op:Int)(nm tx:ByteArray)(n:Int)(l:List (Int×List Tk)):List Tk:=
 if op=1 then [.x (Mq n)]
 else if op=2 then [.x (YP tx)]
 else if op=3 then [.x (C4 nm)]
 else if op=16 then [.x (C4 sT),Qn,.x (C4 nm),JB,.b 32,.x (Mq n),Gr]
 else if op=17 then [.x (C4 sd),Qn,.x (C4 nm),JB,.b 32,.x (Mq n),Gr]
 else if op=4 then .x (C4 sY):: .b 32::eo l 0 6
 else if op=5 then .x (Cb ⟨#[45]⟩)::eo l 0 6
 else if op=15 then eo l 0 4++(.b 32:: .x (C4 iB):: .b 32::Qn::(aM (l.drop 1)++[Gr]))
 else eo l 0 (QW op)++(.b 32:: .x (Jx op):: .b 32::eo l 1 (Ga op+1))
mutual
def kX:Xs→List Tk
 | .mk op nm tx n args=>Gq op nm tx n (kL args)
def kL:List Xs→List (Int×List Tk)
 | []=>[]
 |x::l=>(opO x,kX x)::kL l
end
theorem Oh: ∀l:List Xs,kL l=l.map fun x=>(opO x,kX x)
 | []=>by simp[kL]
 |x::l=>by simp[kL,Oh l]
def CS(k:Int)(t:Xs):List Tk:=YN k (opO t,kX t)
theorem ml(a:Array UInt8):ByteArray.toList ⟨a⟩=a.toList:=by rw[ByteArray.toList_eq]
theorem Oq(k:Int)(p:Int×List Tk):BZ (YN k p)=Ur k (p.1,BZ p.2):=by
 unfold YN Ur
 split
 ·rfl
 ·simp[BZ,Qn,Gr,CY,Bo,ml]
def tP(p:Int×List Tk):Int×List UInt8:=(p.1,BZ p.2)
theorem K9(l:List (Int×List Tk))(i:Nat)(k:Int):BZ (eo l i k)=T2 (l.map tP) i k:=by
 unfold eo T2
 rw[Oq]
 congr 1
 rw[List.getD_eq_getElem?_getD,List.getD_eq_getElem?_getD,List.getElem?_map]
 cases l[i]? <;>rfl
theorem QS: ∀l:List (Int×List Tk),BZ (aO l)=aN (l.map tP)
 | []=>rfl
 |p::l=>by
  have:=QS l
  simp only[aO,aN,List.flatMap_cons,List.map_cons,List.cons_append,BZ,CY,JB,Bo,ml,Oq]at this⊢
  rw[this]
  rfl
theorem aL: ∀l:List (Int×List Tk),BZ (aM l)=M4 (l.map tP)
 | []=>rfl
 |p::l=>by simp only[aM,M4,List.map_cons,CY,QS,Oq];rfl
theorem Vd(op:Int)(nm tx:ByteArray)(n:Int)(l:List (Int×List Tk)):BZ (Gq op nm tx n l)=Bf op nm tx n (l.map tP):=by
 unfold Gq Bf
 split
 ·simp[BZ,EA]
 split
 ·simp[BZ,kM,ByteArray.toList_eq]
 split
 ·simp[BZ,GK,ByteArray.toList_eq]
 split
 ·simp[BZ,GK,EA,Bo,Qn,Gr,JB,sT,ByteArray.toList_eq]
 split
 ·simp[BZ,GK,EA,Bo,Qn,Gr,JB,sd,ByteArray.toList_eq]
 split
 ·simp[BZ,GK,sY,ByteArray.toList_eq,K9]
 split
 ·simp[BZ,Bo,ByteArray.toList_eq,K9]
 split
 ·simp[BZ,CY,GK,Bo,Qn,Gr,iB,ByteArray.toList_eq,K9,aL]
 ·have:Ad (Jx op)=Gj op:=by unfold Jx;split<;>simp[GK,Bo,Ar]
  simp[BZ,CY,K9,this]
theorem FP(x:Xs):BZ (kX x)=tX x:=by
 induction x using Xs.ind with
 |h op nm tx n args ih=>
  rw[kX,tX,Vd,Oh,Fp,List.map_map]
  congr 1
  apply List.map_congr_left
  intro a ha
  simp only[Function.comp,tP,ih a ha]
def sn(x:Xs):Prop:= ∀w,Dk w→J3 (kX x) w
theorem dz:JG (Cb ⟨#[40]⟩):=Ez (by decide+kernel)
theorem dx:JG (Cb ⟨#[41]⟩):=Ez (by decide+kernel)
theorem lF:JG (Cb ⟨#[44]⟩):=Ez (by decide+kernel)
theorem MB{k:Int}{x:Xs}(h:sn x){w:List UInt8}(hw:Dk w):J3 (CS k x) w:=by
 unfold CS YN
 split
 ·exact h w hw
 ·simp only[Qn,Gr,J3,CP,BZ,Bo,ml]
  exact⟨dz,Et (by rw[ml];decide) _,h _ (C1 (by decide) _),dx,Et (by rw[ml];decide) _,trivial⟩
theorem Lz{args:List Xs}{i:Nat}{a:Xs}(h:args[i]? =some a)(k:Int):eo (kL args) i k=CS k a:=by
 unfold eo CS
 rw[Oh,List.getD_eq_getElem?_getD,List.getElem?_map,h];rfl
theorem qW(l:List Xs):aO (kL l)=l.flatMap fun x=>JB:: .b 32::CS 4 x:=by
 unfold aO CS;rw[Oh,List.flatMap_map]
theorem qV(x:Xs)(l:List Xs):aM (kL (x::l))=CS 4 x++l.flatMap fun x=>JB:: .b 32::CS 4 x:=by
 rw[kL,aM,qW];rfl
theorem bD: ∀(l:List Xs),(∀a∈l,sn a)→ ∀w,J3 (l.flatMap fun x=>JB:: .b 32::CS 4 x) (41::w)∧Dk (BZ (l.flatMap fun x=>JB:: .b 32::CS 4 x)++41::w)
 | [],_,w=>⟨trivial,C1 (by decide) _⟩
 |x::l,h,w=>by
  obtain⟨h1,h2⟩:=bD l (fun a ha=>h a (by simp[ha])) w
  simp only[List.flatMap_cons,CP,CY,List.cons_append,JB,J3,BZ,Bo,ml]
  exact⟨⟨lF,Et (by rw[ml];decide) _,by decide,MB (h x (by simp)) h2,h1⟩,C1 (by decide) _⟩
theorem ae{s:ByteArray}(h:JE s=true):JG (C4 s):=by
 unfold JE at h
 simp only[Bool.and_eq_true]at h
 exact GC h.1
theorem rQ{op:Int}(h:6≤op∧op≤14):JG (Jx op):=by
 have:op=6∨op=7∨op=8∨op=9∨op=10∨op=11∨op=12∨op=13∨op=14:=by omega
 rcases this with rfl|rfl|rfl|rfl|rfl|rfl|rfl|rfl|rfl
 ·exact GC (by decide+kernel)
 ·exact GC (by decide+kernel)
 ·exact Ez (c:=61) (by decide+kernel)
 ·exact .inr (.inr (.inr ⟨rfl,rfl,.inl (Ar _)⟩))
 ·exact Ez (c:=60) (by decide+kernel)
 ·exact .inr (.inr (.inr ⟨rfl,rfl,.inr (.inl (Ar _))⟩))
 ·exact Ez (c:=43) (by decide+kernel)
 ·exact Ez (c:=45) (by decide+kernel)
 ·exact Ez (c:=42) (by decide+kernel)
theorem rO(op:Int)(w:List UInt8):Ul (Jx op) (32::w):=by
 unfold Jx
 split
 ·exact FT _ (C1 (by decide) _)
 ·unfold Ul Cb
  exact⟨fun e=>by simp at e,fun _ _=>by simp⟩
theorem oN{l:List Xs}(h:l.length=2): ∃a b,l=[a,b]:=by
 match l,h with
 | [a,b],_=>exact⟨a,b,rfl⟩
theorem nB{l:List Xs}(h:l.length=1): ∃a,l=[a]:=by
 match l,h with
 | [a],_=>exact⟨a,rfl⟩
theorem iz{l:List Xs}(h:2≤l.length): ∃a b r,l=a::b::r:=by
 match l,h with
 |a::b::r,_=>exact⟨a,b,r,rfl⟩
inductive WrX:Xs→Prop
 |num {n:Int}:0≤n→n≤9007199254740992→WrX (.mk 1 eB eB n [])
 |txt {t:ByteArray}:HU t=true→WrX (.mk 2 eB t 0 [])
 |nam {t:ByteArray}:JE t=true→WrX (.mk 3 t eB 0 [])
 |use {op n:Int} {t:ByteArray}:op=16∨op=17→JE t=true→0≤n→n≤9007199254740992→WrX (.mk op t eB n [])
 |one {op:Int} {a:Xs}:op=4∨op=5→WrX a→WrX (.mk op eB eB 0 [a])
 |two {op:Int} {a b:Xs}:6≤op∧op≤14→WrX a→WrX b→WrX (.mk op eB eB 0 [a,b])
 |inn {a b:Xs} {l:List Xs}:WrX a→WrX b→(∀x∈l,WrX x)→WrX (.mk 15 eB eB 0 (a::b::l))
theorem Lq{s:ByteArray}(h:LD s=true):s=eB:=by
 have:s.toList=[]:=of_decide_eq_true h
 exact DD (by rw[this,eB,ZO])
theorem Kb(x:Xs):wX x=true→WrX x:=by
 induction x using Xs.ind with
 | h op nm tx n args ih=>
  intro h
  obtain⟨hF,hall⟩:=Ts h
  unfold Cy at hF
  split at hF
  ·rename_i e;subst e
   simp only[Bool.and_eq_true,decide_eq_true_eq]at hF
   obtain⟨⟨⟨⟨h1,h2⟩,h3⟩,h4⟩,h5⟩:=hF
   rw[Lq h3,Lq h4,List.eq_nil_of_length_eq_zero h5]
   exact .num h1 h2
  split at hF
  ·rename_i e;subst e
   simp only[Bool.and_eq_true,decide_eq_true_eq]at hF
   obtain⟨⟨⟨h1,h2⟩,h3⟩,h5⟩:=hF
   rw[Lq h2,h3,List.eq_nil_of_length_eq_zero h5]
   exact .txt h1
  split at hF
  ·rename_i e;subst e
   simp only[Bool.and_eq_true,decide_eq_true_eq]at hF
   obtain⟨⟨⟨h1,h2⟩,h3⟩,h5⟩:=hF
   rw[Lq h2,h3,List.eq_nil_of_length_eq_zero h5]
   exact .nam h1
  split at hF
  ·rename_i e
   simp only[Bool.and_eq_true,decide_eq_true_eq]at hF
   obtain⟨⟨⟨⟨h1,h2⟩,h3⟩,h4⟩,h5⟩:=hF
   rw[Lq h4,List.eq_nil_of_length_eq_zero h5]
   exact .use e h1 h2 h3
  simp only[Bool.and_eq_true,decide_eq_true_eq]at hF
  obtain⟨⟨⟨h1,h2⟩,h3⟩,h4⟩:=hF
  rw[Lq h1,Lq h2,h3]
  split at h4
  ·rename_i e
   obtain⟨a,rfl⟩:=nB (of_decide_eq_true h4)
   exact .one e (ih a (by simp) (hall a (by simp)))
  split at h4
  ·rename_i e
   obtain⟨a,b,rfl⟩:=oN (of_decide_eq_true h4)
   exact .two e (ih a (by simp) (hall a (by simp))) (ih b (by simp) (hall b (by simp)))
  ·simp only[Bool.and_eq_true,decide_eq_true_eq]at h4
   obtain⟨a,b,r,rfl⟩:=iz h4.2
   rw[h4.1]
   exact .inn (ih a (by simp) (hall a (by simp))) (ih b (by simp) (hall b (by simp))) fun x hx=>ih x (by simp[hx]) (hall x (by simp[hx]))
theorem SV(n:Int):kX (.mk 1 eB eB n [])=[.x (Mq n)]:=by simp[kX,Gq]
theorem SX(t:ByteArray):kX (.mk 2 eB t 0 [])=[.x (YP t)]:=by simp[kX,Gq]
theorem SR(t:ByteArray):kX (.mk 3 t eB 0 [])=[.x (C4 t)]:=by simp[kX,Gq]
def dt(op:Int):ByteArray:=if op=16 then sT else sd
theorem SY{op:Int}(h:op=16∨op=17)(t:ByteArray)(n:Int):kX (.mk op t eB n [])=[.x (C4 (dt op)),Qn,.x (C4 t),JB,.b 32,.x (Mq n),Gr]:=by
 rcases h with rfl|rfl<;>simp[kX,Gq,dt]
theorem SU(a:Xs):kX (.mk 4 eB eB 0 [a])=.x (C4 sY):: .b 32::CS 6 a:=by simp[kX,Gq,Lz (args:=[a]) (i:=0) rfl]
theorem ST(a:Xs):kX (.mk 5 eB eB 0 [a])=.x (Cb ⟨#[45]⟩)::CS 6 a:=by simp[kX,Gq,Lz (args:=[a]) (i:=0) rfl]
theorem SW{op:Int}(h:6≤op∧op≤14)(a b:Xs):kX (.mk op eB eB 0 [a,b])=CS (QW op) a++(.b 32:: .x (Jx op):: .b 32::CS (Ga op+1) b):=by
 rw[kX,Gq,if_neg (by omega),if_neg (by omega),if_neg (by omega),if_neg (by omega),if_neg (by omega),if_neg (by omega),if_neg (by omega),if_neg (by omega),Lz (args:=[a,b]) (i:=0) rfl,Lz (args:=[a,b]) (i:=1) rfl]
theorem SQ(a b:Xs)(l:List Xs):kX (.mk 15 eB eB 0 (a::b::l))=CS 4 a++(.b 32:: .x (C4 iB):: .b 32::Qn::((CS 4 b++l.flatMap fun x=>JB:: .b 32::CS 4 x)++[Gr])):=by
 rw[kX,Gq,if_neg (by decide),if_neg (by decide),if_neg (by decide),if_neg (by decide),if_neg (by decide),if_neg (by decide),if_neg (by decide),if_pos rfl,Lz (args:=a::b::l) (i:=0) rfl,←qV]
 rfl
theorem s9{x:Xs}(h:WrX x):sn x:=by
 induction h with
 |num h1 h2=>intro w hw;rw[SV];exact⟨VP h1 h2,Um _ hw,trivial⟩
 |txt h=>intro w hw;rw[SX];exact⟨r9 h,ql _ _,trivial⟩
 |nam h=>intro w hw;rw[SR];exact⟨ae h,FT _ hw,trivial⟩
 | @use op n t h h1 h2 h3=>
  intro w hw
  rw[SY h]
  have hu:JG (C4 (dt op)):=by rcases h with rfl|rfl<;>exact GC (by decide+kernel)
  simp only[J3,Qn,JB,Gr,BZ,Bo,ml]
  exact⟨hu,FT _ (C1 (by decide) _),dz,Et (by rw[ml];decide) _,ae h1,FT _ (C1 (by decide) _),lF,Et (by rw[ml];decide) _,by decide,VP h2 h3,Um _ (C1 (by decide) _),dx,Et (by rw[ml];decide) _,trivial⟩
 | @one op a h ha ih=>
  intro w hw
  rcases h with rfl|rfl
  ·rw[SU]
   exact⟨GC (by decide+kernel),FT _ (C1 (by decide) _),by decide,MB ih hw⟩
  ·rw[ST]
   exact⟨Ez (by decide+kernel),Et (by rw[ml];decide) _,MB ih hw⟩
 | @two op a b h ha hb iha ihb=>
  intro w hw
  rw[SW h,CP]
  exact⟨MB iha (C1 (by decide) _),by decide,rQ h,rO _ _,by decide,MB ihb hw⟩
 | @inn a b l ha hb hl iha ihb ihl=>
  intro w hw
  obtain⟨h1,h2⟩:=bD l ihl w
  rw[SQ,CP]
  refine⟨MB iha (C1 (by decide) _),by decide,GC (by decide+kernel),FT _ (C1 (by decide) _),by decide,dz,Et (by rw[ml];decide) _, ?_⟩
  rw[CP,CP]
  have e:BZ [Gr]++w=41::w:=by simp[BZ,Gr,Bo,ml]
  rw[e]
  exact⟨⟨MB ihb h2,h1⟩,dx,Et (by rw[ml];decide) _,trivial⟩
set_option maxHeartbeats 2000000
set_option maxRecDepth 20000
def LS(L:List LR)(i:Nat)(X:List LR):Prop:= ∀(j:Nat) (x:LR),X[j]? =some x→Cl (Af L (i+j))=Cl x
theorem LS.app{L:List LR}{i:Nat}{X Y:List LR}(h:LS L i (X++Y)):LS L i X∧LS L (i+X.length) Y:=by
 refine⟨fun j x hx=>h j x (by rw[List.getElem?_append_left (List.getElem?_eq_some_iff.1 hx).1];exact hx),fun j x hx=> ?_⟩
 have:=h (X.length+j) x (by rw[List.getElem?_append_right (by omega),show X.length+j - X.length=j by omega];exact hx)
 rwa [←Nat.add_assoc]at this
theorem LS.hd{L:List LR}{i:Nat}{x:LR}{X:List LR}(h:LS L i (x::X)):Cl (Af L i)=Cl x∧LS L (i+1) X:=by
 refine⟨h 0 x rfl,fun j y hy=> ?_⟩
 have:=h (j+1) y hy
 rwa [show i+(j+1)=i+1+j by omega]at this
section
variable {x y:LR} (h:Cl x=Cl y)
include h
theorem B4(k:Int)(t:ByteArray):Aw x k t=Aw y k t:=by unfold Aw;rw[(Bb h).1,(Bb h).2.1]
theorem Ug:Gi x=Gi y:=by unfold Gi;rw[(Bb h).1,(Bb h).2.1]
theorem jG(m:Int):Kk x m=Kk y m:=by unfold Kk;rw[(Bb h).1,(Bb h).2.2]
theorem Uo(l:Nat):EP l x=EP l y:=by unfold EP;simp only[B4 h]
theorem ON:Ge x=Ge y:=by unfold Ge;simp only[B4 h]
theorem UU:Mp x=Mp y:=by unfold Mp;simp only[B4 h]
theorem HM:Dh x=Dh y:=by unfold Dh;simp only[B4 h,(Bb h).1,Ug h]
end
def OG(l:Nat)(y:LR):Prop:=(∀m,l≤m→m<5→m≠2→EP m y=none)∧(l≤2→Ge y=none∧Mp y=false)
theorem OG.key{l:Nat}{x y:LR}(h:Cl x=Cl y)(hs:OG l y):OG l x:=by
 refine⟨fun m h1 h2 h3=> ?_,fun hl=> ?_⟩
 ·rw[Uo h];exact hs.1 m h1 h2 h3
 ·rw[ON h,UU h];exact hs.2 hl
theorem OG.up{l m:Nat}{y:LR}(h:OG l y)(hm:l≤m):OG m y:=⟨fun k h1 h2 h3=>h.1 k (by omega) h2 h3,fun h1=>h.2 (by omega)⟩
theorem OG.five(y:LR):OG 5 y:=⟨fun m h1 h2=>by omega,fun h=>by omega⟩
theorem OG.of{l:Nat}{y:LR}(h0:l≤0→EP 0 y=none)(h1:l≤1→EP 1 y=none)(h2:l≤2→Ge y=none∧Mp y=false)(h3:l≤3→EP 3 y=none)(h4:l≤4→EP 4 y=none):OG l y:=
 ⟨fun m a b c=>by
  have:m=0∨m=1∨m=3∨m=4:=by omega
  rcases this with rfl|rfl|rfl|rfl
  ·exact h0 a
  ·exact h1 a
  ·exact h3 a
  ·exact h4 a,h2⟩
def ln(T:List Tk):Nat:=(BS T).length
theorem LS.apT{L:List LR}{i:Nat}{T:List Tk}{Y:List LR}(h:LS L i (BS T++Y)):LS L i (BS T)∧LS L (i+ln T) Y:=h.app
def Rd(l:Nat)(T:List Tk)(x:Xs):Prop:= ∀(L:List LR) (i:Nat),LS L i (BS T)→OG l (Af L (i+ln T))→Pr L (.lv l) i (.ok x (i+ln T))
def Rq(l:Nat)(T:List Tk)(x:Xs):Prop:= ∀(L:List LR) (i:Nat) (r:Rz),LS L i (BS T)→OG (l+1) (Af L (i+ln T))→Pr L (.lp l x) (i+ln T) r→Pr L (.lv l) i r
theorem Rq.rd{l:Nat}{T:List Tk}{x:Xs}(h:Rq l T x)(h2:l≠2)(h5:l<5):Rd l T x:=fun L i ha hs=>h L i _ ha (hs.up (by omega)) (.lpN (hs.1 l (Nat.le_refl _) h5 h2))
theorem Rd.rq{l:Nat}{T:List Tk}{x:Xs}(h:Rd (l+1) T x)(h2:l≠2)(h5:l<5):Rq l T x:=fun L i r ha hs hp=>.opO h2 h5 (h L i ha hs) hp
theorem Rd.two{T:List Tk}{x:Xs}(h:Rd 3 T x):Rd 2 T x:=fun L i ha hs=>.cmN (h L i ha (hs.up (by omega))) (hs.2 (by omega)).1 (hs.2 (by omega)).2
theorem T0{g:Nat}{T:List Tk}{x:Xs}(hg:g≤5)(h:Rd g T x): ∀d l,l+d=g→Rd l T x∧(l<g→l≠2→Rq l T x)
 |0,l,e=>by
  obtain rfl:l=g:=by omega
  exact⟨h,fun h=>by omega⟩
 | d+1,l,e=>by
  have h1:=(T0 hg h d (l+1) (by omega)).1
  by_cases h2:l=2
  ·subst h2;exact⟨h1.two,fun _ h=>absurd rfl h⟩
  ·have hq:=h1.rq h2 (by omega)
   exact⟨hq.rd h2 (by omega),fun _ _=>hq⟩
def eX(x:Xs):Prop:= ∀(l:Nat) (k:Int),k=l+1→l≤5→Rd l (CS k x) x∧(l≠2→l<5→Rq l (CS k x) x)
theorem oT:Dh (Cb ⟨#[40]⟩)=.par:=by simp[Dh,Aw,Cb,ml]
theorem kW:Aw (Cb ⟨#[41]⟩) 4 ⟨#[41]⟩=true:=by simp[Aw,Cb]
theorem dW:OG 0 (Cb ⟨#[41]⟩):=by
 refine .of ?_ ?_ ?_ ?_ ?_<;>intro _<;>simp[EP,Ge,Mp,Aw,Cb,ml]
theorem oG:OG 0 (Cb ⟨#[44]⟩):=by
 refine .of ?_ ?_ ?_ ?_ ?_<;>intro _<;>simp[EP,Ge,Mp,Aw,Cb,ml]
theorem FN{x:Xs}{g:Nat}(hg:Ga (opO x)=(g:Int)+1)(h:Rd g (kX x) x)(hq:g≠2→g<5→Rq g (kX x) x):eX x:=by
 intro l k hk hl
 have hg5:g≤5:=by have:=Ok (opO x);omega
 by_cases hlg:l≤g
 ·have e:CS k x=kX x:=by unfold CS YN;rw[if_pos (by show k≤Ga (opO x);omega)]
  rw[e]
  obtain⟨h1,h2⟩:=T0 hg5 h (g - l) l (by omega)
  refine⟨h1,fun a b=> ?_⟩
  by_cases e:l=g
  ·subst e;exact hq a b
  ·exact h2 (by omega) a
 ·have e:CS k x=Qn::(kX x++[Gr]):=by unfold CS YN;rw[if_neg (by show¬k≤Ga (opO x);omega)]
  rw[e]
  have h5:Rd 5 (Qn::(kX x++[Gr])) x:=by
   intro L i ha _
   have eL:BS (Qn::(kX x++[Gr]))=Cb ⟨#[40]⟩::(BS (kX x)++[Cb ⟨#[41]⟩]):=by simp[BS,Qn,Gr,DA]
   have en:ln (Qn::(kX x++[Gr]))=ln (kX x)+2:=by unfold ln;rw[eL];simp
   rw[en]
   rw[eL]at ha
   obtain⟨a1,a2⟩:=ha.hd
   obtain⟨a3,a4⟩:=a2.apT
   obtain⟨a5,_⟩:=a4.hd
   have h0:=(T0 hg5 h g 0 (by omega)).1 L (i+1) a3 (dW.key a5)
   have:=Pr.paO (by rw[HM a1];exact oT) h0 (by rw[B4 a5];exact kW)
   rwa [show i+1+ln (kX x)+1=i+(ln (kX x)+2) by omega]at this
  obtain⟨h1,h2⟩:=T0 (Nat.le_refl 5) h5 (5 - l) l (by omega)
  exact⟨h1,fun a b=>h2 b a⟩
theorem i7{t:ByteArray}(h:JE t=true):Dh (C4 t)=.nam:=by
 unfold JE at h
 simp only[Bool.and_eq_true,Bool.not_eq_true']at h
 have hn:Gi (C4 t)=true:=by simp[Gi,C4,h.2]
 have h2:=h.2
 unfold M9 at h2
 simp only[Bool.or_eq_false_iff,decide_eq_false_iff_not,ml]at h2
 simp[Dh,Aw,C4,h2]
 have hn':Gi (⟨1,t,0,0,0,0⟩:LR)=true:=hn
 simp[hn']
theorem i6{t:ByteArray}(h:JE t=true):Gi (C4 t)=true:=by
 unfold JE at h
 simp only[Bool.and_eq_true,Bool.not_eq_true']at h
 simp[Gi,C4,h.2]
theorem Sk{x:Xs}{y:LR}(e:kX x=[.x y])(h: ∀(L:List LR) (i:Nat),Cl (Af L i)=Cl y→Pr L (.lv 5) i (.ok x (i+1))):Rd 5 (kX x) x:=by
 intro L i ha _
 rw[e]at ha⊢
 exact h L i (LS.hd (x:=y) (X:=[]) ha).1
theorem rP{op:Int}(h:6≤op∧op≤14): ∃g:Nat,Ga op=(g:Int)+1∧g≤4∧QW op=(if g=2 then 4 else(g:Int)+1)∧OG (g+1) (Jx op)∧(if g=2 then Ge (Jx op)=some op else EP g (Jx op)=some op):=by
 have:op=6∨op=7∨op=8∨op=9∨op=10∨op=11∨op=12∨op=13∨op=14:=by omega
 rcases this with rfl|rfl|rfl|rfl|rfl|rfl|rfl|rfl|rfl
 ·exact⟨1,rfl,by omega,rfl,.of (by simp) (by simp) (fun _=>by simp[Ge,Mp,Aw,Jx,C4,Gj,ml,Ar]) (fun _=>by simp[EP,Aw,Jx,C4,Gj,ml,Ar]) (fun _=>by simp[EP,Aw,Jx,C4,Gj,ml,Ar]),by simp[EP,Aw,Jx,C4,Gj,ml,Ar]⟩
 ·exact⟨0,rfl,by omega,rfl,.of (by simp) (fun _=>by simp[EP,Aw,Jx,C4,Gj,ml,Ar]) (fun _=>by simp[Ge,Mp,Aw,Jx,C4,Gj,ml,Ar]) (fun _=>by simp[EP,Aw,Jx,C4,Gj,ml,Ar]) (fun _=>by simp[EP,Aw,Jx,C4,Gj,ml,Ar]),by simp[EP,Aw,Jx,C4,Gj,ml,Ar]⟩
 all_goals first
  |exact⟨2,rfl,by omega,rfl,.of (by simp) (by simp) (by simp) (fun _=>by simp[EP,Aw,Jx,Cb,Gj,ml,Ar]) (fun _=>by simp[EP,Aw,Jx,Cb,Gj,ml,Ar]),by simp[Ge,Aw,Jx,Cb,Gj,ml,Ar]⟩
  |exact⟨3,rfl,by omega,rfl,.of (by simp) (by simp) (by simp) (by simp) (fun _=>by simp[EP,Aw,Jx,Cb,Gj,ml,Ar]),by simp[EP,Aw,Jx,Cb,Gj,ml,Ar]⟩
  |exact⟨4,rfl,by omega,rfl,.of (by simp) (by simp) (by simp) (by simp) (by simp),by simp[EP,Aw,Jx,Cb,Gj,ml,Ar]⟩
theorem Y2{L:List LR}: ∀(l:List Xs) (b:Xs) (xs:List Xs) (i:Nat),eX b→(∀x∈l,eX x)→LS L i (BS ((CS 4 b++l.flatMap fun x=>JB:: .b 32::CS 4 x)++[Gr]))→
  Pr L (.ch xs) i (.ok (.mk 15 eB eB 0 (xs++b::l)) (i+ln ((CS 4 b++l.flatMap fun x=>JB:: .b 32::CS 4 x)++[Gr])))
 | [],b,xs,i,hb,_,ha=>by
  have eL:BS ((CS 4 b++([]:List Xs).flatMap fun x=>JB:: .b 32::CS 4 x)++[Gr])=BS (CS 4 b)++[Cb ⟨#[41]⟩]:=by simp[DA,BS,Gr]
  have en:ln ((CS 4 b++([]:List Xs).flatMap fun x=>JB:: .b 32::CS 4 x)++[Gr])=ln (CS 4 b)+1:=by unfold ln;rw[eL];simp
  rw[en]
  rw[eL]at ha
  obtain⟨a1,a2⟩:=ha.apT
  obtain⟨a3,_⟩:=a2.hd
  have:=(hb 3 4 rfl (by omega)).1 L i a1 ((dW.up (by omega)).key a3)
  have:=Pr.chO (xs:=xs) this (by rw[B4 a3];simp[Aw,Cb,ml]) (by rw[B4 a3];exact kW)
  exact this
 |c::l,b,xs,i,hb,hl,ha=>by
  have eL:BS ((CS 4 b++(c::l).flatMap fun x=>JB:: .b 32::CS 4 x)++[Gr])=BS (CS 4 b)++(Cb ⟨#[44]⟩::BS ((CS 4 c++l.flatMap fun x=>JB:: .b 32::CS 4 x)++[Gr])):=by simp[DA,BS,Gr,JB]
  have en:ln ((CS 4 b++(c::l).flatMap fun x=>JB:: .b 32::CS 4 x)++[Gr])=ln (CS 4 b)+1+ln ((CS 4 c++l.flatMap fun x=>JB:: .b 32::CS 4 x)++[Gr]):=by unfold ln;rw[eL];simp;omega
  rw[en]
  rw[eL]at ha
  obtain⟨a1,a2⟩:=ha.apT
  obtain⟨a3,a4⟩:=a2.hd
  have h1:=(hb 3 4 rfl (by omega)).1 L i a1 ((oG.up (by omega)).key a3)
  have h2:=Y2 l c (xs++[b]) (i+ln (CS 4 b)+1) (hl c (by simp)) (fun x hx=>hl x (by simp[hx])) a4
  have:=Pr.chM h1 (by rw[B4 a3];simp[Aw,Cb]) h2
  rwa [List.append_assoc,show i+ln (CS 4 b)+1+ln ((CS 4 c++l.flatMap fun x=>JB:: .b 32::CS 4 x)++[Gr])=i+(ln (CS 4 b)+1+ln ((CS 4 c++l.flatMap fun x=>JB:: .b 32::CS 4 x)++[Gr])) by omega]at this
theorem Z8{x:Xs}(h:WrX x):eX x:=by
 induction h with
 | @num n h1 h2=>
  refine FN (g:=5) rfl (Sk (SV n) fun L i hk=> ?_) (fun _ h=>by omega)
  have:=Pr.nu (L:=L) (i:=i) (by rw[HM hk];simp[Dh,Aw,Mq])
  rwa [(Bb hk).2.2]at this
 | @txt t h=>
  refine FN (g:=5) rfl (Sk (SX t) fun L i hk=> ?_) (fun _ h=>by omega)
  have:=Pr.te (L:=L) (i:=i) (by rw[HM hk];simp[Dh,Aw,YP])
  rwa [(Bb hk).2.1]at this
 | @nam t h=>
  refine FN (g:=5) rfl (Sk (SR t) fun L i hk=> ?_) (fun _ h=>by omega)
  have:=Pr.na (L:=L) (i:=i) (by rw[HM hk];exact i7 h)
  rwa [(Bb hk).2.1]at this
 | @use op n t h h1 h2 h3=>
  have h5:Rd 5 (kX (.mk op t eB n [])) (.mk op t eB n []):=by
   intro L i ha _
   have eL:BS (kX (.mk op t eB n []))=[C4 (dt op),Cb ⟨#[40]⟩,C4 t,Cb ⟨#[44]⟩,Mq n,Cb ⟨#[41]⟩]:=by rw[SY h];rfl
   have en:ln (kX (.mk op t eB n []))=6:=by unfold ln;rw[eL];rfl
   rw[en]
   rw[eL]at ha
   obtain⟨a1,a2⟩:=ha.hd
   obtain⟨b1,b2⟩:=a2.hd
   obtain⟨c1,c2⟩:=b2.hd
   obtain⟨d1,d2⟩:=c2.hd
   obtain⟨e1,e2⟩:=d2.hd
   obtain⟨f1,_⟩:=e2.hd
   refine Pr.usO (o:=op) (by rw[HM a1];rcases h with rfl|rfl<;>simp[Dh,Aw,C4,dt,sT,sd,ml]) (j:=i+6) ?_
   have k1:Aw (Af L (i+1)) 4 ⟨#[40]⟩=true:=by rw[B4 b1];simp[Aw,Cb]
   have k2:Gi (Af L (i+1+1))=true:=by rw[Ug c1];exact i6 h1
   have k3:Aw (Af L (i+1+2)) 4 ⟨#[44]⟩=true:=by rw[B4 d1];simp[Aw,Cb]
   have k4:Kk (Af L (i+1+3)) 9007199254740992=true:=by rw[jG e1];simp[Kk,Mq,h3]
   have k5:Aw (Af L (i+1+4)) 4 ⟨#[41]⟩=true:=by rw[B4 f1];simp[Aw,Cb]
   unfold KX
   rw[if_neg (by rw[k1];simp),if_neg (by rw[k2];simp),if_neg (by rw[k3];simp),if_neg (by rw[k4];simp),if_neg (by rw[k5];simp),(Bb c1).2.1,(Bb e1).2.2]
   rfl
  refine FN (g:=5) ?_ h5 (fun _ h=>by omega)
  rcases h with rfl|rfl<;>rfl
 | @one op a h ha ih=>
  have h5:Rd 5 (kX (.mk op eB eB 0 [a])) (.mk op eB eB 0 [a]):=by
   intro L i hat _
   obtain⟨y,T,hT,hu⟩: ∃y T,kX (.mk op eB eB 0 [a])=.x y::T∧BS T=BS (CS 6 a)∧Dh y=.one op:=by
    rcases h with rfl|rfl
    ·exact⟨_,_,SU a,rfl,by simp[Dh,Aw,C4,sY]⟩
    ·exact⟨_,_,ST a,rfl,by simp[Dh,Aw,Cb]⟩
   have eL:BS (kX (.mk op eB eB 0 [a]))=y::BS (CS 6 a):=by rw[hT,BS,hu.1]
   have en:ln (kX (.mk op eB eB 0 [a]))=1+ln (CS 6 a):=by unfold ln;rw[eL];simp;omega
   rw[en]
   rw[eL]at hat
   obtain⟨a1,a2⟩:=hat.hd
   have:=Pr.unO (by rw[HM a1];exact hu.2) ((ih 5 6 rfl (by omega)).1 L (i+1) a2 (OG.five _))
   rwa [Nat.add_assoc]at this
  refine FN (g:=5) ?_ h5 (fun _ h=>by omega)
  rcases h with rfl|rfl<;>rfl
 | @two op a b h ha hb iha ihb=>
  obtain⟨g,hg,g4,hle,hst,hop⟩:=rP h
  have eL:BS (kX (.mk op eB eB 0 [a,b]))=BS (CS (QW op) a)++(Jx op::BS (CS (Ga op+1) b)):=by rw[SW h,DA];rfl
  have en:ln (kX (.mk op eB eB 0 [a,b]))=ln (CS (QW op) a)+1+ln (CS (Ga op+1) b):=by unfold ln;rw[eL];simp;omega
  by_cases g2:g=2
  ·subst g2
   rw[if_pos rfl]at hle hop
   refine FN (g:=2) hg ?_ (fun h=>absurd rfl h)
   intro L i hat hs
   rw[en]at hs⊢
   rw[eL]at hat
   obtain⟨a1,a2⟩:=hat.apT
   obtain⟨a3,a4⟩:=a2.hd
   rw[hle]at a1 a3 a4 hs⊢
   have e4:Ga op+1=4:=by rw[hg];rfl
   rw[e4]at a4 hs⊢
   have h1:=(iha 3 4 rfl (by omega)).1 L i a1 (hst.key a3)
   have h2:=(ihb 3 4 rfl (by omega)).1 L (i+ln (CS 4 a)+1) a4 (by
    have:=hs.up (m:=3) (by omega)
    rwa [show i+(ln (CS 4 a)+1+ln (CS 4 b))=i+ln (CS 4 a)+1+ln (CS 4 b) by omega]at this)
   have:=Pr.cmO h1 (by rw[ON a3];exact hop) h2
   rwa [show i+ln (CS 4 a)+1+ln (CS 4 b)=i+(ln (CS 4 a)+1+ln (CS 4 b)) by omega]at this
  ·rw[if_neg g2]at hle hop
   have hq:Rq g (kX (.mk op eB eB 0 [a,b])) (.mk op eB eB 0 [a,b]):=by
    intro L i r hat hs hp
    rw[en]at hs hp
    rw[eL]at hat
    obtain⟨a1,a2⟩:=hat.apT
    obtain⟨a3,a4⟩:=a2.hd
    have e1:i+(ln (CS (QW op) a)+1+ln (CS (Ga op+1) b))=i+ln (CS (QW op) a)+1+ln (CS (Ga op+1) b):=by omega
    rw[e1]at hs hp
    have h2:=(ihb (g+1) (Ga op+1) (by rw[hg];omega) (by omega)).1 L (i+ln (CS (QW op) a)+1) a4 hs
    exact(iha g (QW op) hle (by omega)).2 g2 (by omega) L i r a1 (hst.key a3) (.lpO (by rw[Uo a3];exact hop) h2 hp)
   exact FN hg (hq.rd g2 (by omega)) (fun _ _=>hq)
 | @inn a b l ha hb hl iha ihb ihl=>
  refine FN (g:=2) rfl ?_ (fun h=>absurd rfl h)
  intro L i hat hs
  have eL:BS (kX (.mk 15 eB eB 0 (a::b::l)))=BS (CS 4 a)++(C4 iB::Cb ⟨#[40]⟩::BS ((CS 4 b++l.flatMap fun x=>JB:: .b 32::CS 4 x)++[Gr])):=by rw[SQ,DA];rfl
  have en:ln (kX (.mk 15 eB eB 0 (a::b::l)))=ln (CS 4 a)+2+ln ((CS 4 b++l.flatMap fun x=>JB:: .b 32::CS 4 x)++[Gr]):=by unfold ln;rw[eL];simp;omega
  rw[en]
  rw[eL]at hat
  obtain⟨a1,a2⟩:=hat.apT
  obtain⟨a3,a4⟩:=a2.hd
  obtain⟨a5,a6⟩:=a4.hd
  have st:OG 3 (C4 iB):=.of (by simp) (by simp) (by simp) (fun _=>by simp[EP,Aw,C4,iB]) (fun _=>by simp[EP,Aw,C4,iB])
  have h1:=(iha 3 4 rfl (by omega)).1 L i a1 (st.key a3)
  have h2:=Y2 (L:=L) l b [a] (i+ln (CS 4 a)+2) ihb ihl a6
  have:=Pr.inC h1 (by rw[ON a3];simp[Ge,Aw,C4,iB]) (by rw[UU a3];simp[Mp,Aw,C4,iB]) (by rw[B4 a5];simp[Aw,Cb]) h2
  rwa [show i+ln (CS 4 a)+2+ln ((CS 4 b++l.flatMap fun x=>JB:: .b 32::CS 4 x)++[Gr])=i+(ln (CS 4 a)+2+ln ((CS 4 b++l.flatMap fun x=>JB:: .b 32::CS 4 x)++[Gr])) by omega]at this
set_option maxHeartbeats 2000000
set_option maxRecDepth 20000
def Tz(L:List LR):Prop:= ∀i,JG (Af L i)∨(Af L i).k=0
theorem Jz{s:ByteArray}(h0:(AG s).1=0):Tz (AG s).2.2:=by
 obtain⟨K,hK,hw,_⟩:=DY h0
 intro i
 rw[hK]
 unfold Af
 rw[List.getD_eq_getElem?_getD]
 cases h:(K++[DS s])[i]? with
 |none=>exact .inr rfl
 |some x=>
  rcases List.mem_append.1 (List.mem_of_getElem? h)with e|e
  ·exact .inl (hw x e)
  ·rw[List.mem_singleton.1 e];exact .inr rfl
theorem PY{x:LR}(h:JG x∨x.k=0)(hk:x.k=2):0≤x.n∧x.n≤9007199254740992:=by
 rcases h with(⟨k,_⟩|⟨k,_,m,h1,h2⟩|⟨k,_⟩|⟨k,_⟩)|k
 ·omega
 ·omega
 ·omega
 ·omega
 ·omega
theorem Qc: ∀{l:List UInt8},Ci (l++[34])=some l.length→l.all chB=true
 | [],_=>rfl
 | c ::l,h=>by
  simp only[List.cons_append,Ci,List.length_cons]at h
  by_cases h1:c.toNat=34
  ·rw[if_pos h1]at h;simp at h
  ·rw[if_neg h1]at h
   by_cases h2:J6 c=true
   ·rw[if_pos h2]at h;cases h
   ·rw[if_neg h2]at h
    cases h3:Ci (l++[34])with
    |none=>rw[h3]at h;cases h
    |some k=>
     rw[h3]at h
     have hk:k=l.length:=by simpa using h
     have:=Qc (l:=l) (by rw[h3,hk])
     rw[List.all_cons,this,Bool.and_true]
     unfold J6 at h2
     simp at h2
     unfold chB
     simp;omega
theorem oe{x:LR}(h:JG x∨x.k=0)(hk:x.k=3):HU x.t=true:=by
 rcases h with(⟨k,_⟩|⟨k,_⟩|⟨k,_,h1,h2⟩|⟨k,_⟩)|k
 ·omega
 ·omega
 ·unfold HU
  rw[Qc h2,←AP]
  simp[h1]
 ·omega
 ·omega
theorem dy{x:LR}(h:JG x∨x.k=0)(hk:Gi x=true):JE x.t=true:=by
 unfold Gi at hk
 simp only[Bool.and_eq_true,decide_eq_true_eq]at hk
 rcases h with(⟨k,_,h1,h2,c,l,h3,h4⟩|⟨k,_⟩|⟨k,_⟩|⟨k,_⟩)|k
 ·unfold JE Bp
  rw[hk.2,Bool.and_true]
  have hs:=AP x.t
  simp only[Bool.and_eq_true,decide_eq_true_eq]
  refine⟨by rw[←hs,h3];simp,by omega, ?_,by rw[h2,hs]⟩
  rw[h3];exact h4
 ·omega
 ·omega
 ·omega
 ·omega
theorem Up{l:Nat}{x:LR}{o:Int}(h:EP l x=some o):6≤o∧o≤14:=by
 unfold EP at h
 repeat' split at h
 all_goals first|(cases h;done)|(cases h;omega)
theorem T7{x:LR}{o:Int}(h:Ge x=some o):6≤o∧o≤14:=by
 unfold Ge at h
 repeat' split at h
 all_goals first|(cases h;done)|(cases h;omega)
theorem Lp:LD eB=true:=by simp[LD,eB,ml]
theorem dw{o:Int}{a b:Xs}(ho:6≤o∧o≤14)(ha:wX a=true)(hb:wX b=true):wX (EV o a b)=true:=by
 have hF:Cy o eB eB 0 2=true:=by
  unfold Cy
  rw[if_neg (by omega),if_neg (by omega),if_neg (by omega),if_neg (by omega),if_neg (by omega),if_pos ho,Lp]
  simp
 simp only[EV,wX,wL,ha,hb,List.length_cons,List.length_nil,Nat.zero_add,Bool.and_true]
 exact hF
theorem oZ{o:Int}{a:Xs}(ho:o=4∨o=5)(ha:wX a=true):wX (Ji o a)=true:=by
 have hF:Cy o eB eB 0 1=true:=by
  unfold Cy
  rw[if_neg (by omega),if_neg (by omega),if_neg (by omega),if_neg (by omega),if_pos ho,Lp]
  simp
 simp only[Ji,wX,wL,ha,List.length_cons,List.length_nil,Nat.zero_add,Bool.and_true]
 exact hF
theorem oY{l:List Xs}(h2:2≤l.length)(h: ∀x∈l,wX x=true):wX (.mk 15 eB eB 0 l)=true:=by
 have hF:Cy 15 eB eB 0 l.length=true:=by
  unfold Cy
  rw[if_neg (by omega),if_neg (by omega),if_neg (by omega),if_neg (by omega),if_neg (by omega),if_neg (by omega),Lp]
  simp[h2]
 rw[wX,hF,PW,Bool.true_and,List.all_eq_true]
 exact h
theorem VH{x:LR}{o:Int}(h:Dh x=.one o):(o=4∨o=5)∧x.k≠0:=by
 unfold Dh at h
 split at h
 ·rename_i hx;cases h;exact⟨by omega,by rw[B0 hx];decide⟩
 split at h
 ·rename_i hx;cases h;exact⟨by omega,by rw[B0 hx];decide⟩
 repeat' split at h
 all_goals cases h
theorem VK{x:LR}{o:Int}(h:Dh x=.use o):o=16∨o=17:=by
 unfold Dh at h
 repeat' split at h
 all_goals first|(cases h;done)|(cases h;omega)
theorem VG{x:LR}(h:Dh x=.num):x.k=2:=by
 unfold Dh at h
 repeat' split at h
 all_goals first|(cases h;done)|assumption
theorem VJ{x:LR}(h:Dh x=.txt):x.k=3:=by
 unfold Dh at h
 repeat' split at h
 all_goals first|(cases h;done)|assumption
theorem VF{x:LR}(h:Dh x=.nam):Gi x=true:=by
 unfold Dh at h
 repeat' split at h
 all_goals first|(cases h;done)|assumption
theorem dr{L:List LR}{i j:Nat}{nm:ByteArray}{n:Int}(hL:Tz L)(h:KX L i=(0,j,nm,n)):j=i+5∧JE nm=true∧0≤n∧n≤9007199254740992:=by
 unfold KX at h
 split at h
 ·simp at h
 split at h
 ·simp at h
 rename_i h2
 split at h
 ·simp at h
 split at h
 ·simp at h
 rename_i h4
 split at h
 ·simp at h
 simp only[Prod.mk.injEq,true_and]at h
 obtain⟨rfl,rfl,rfl⟩:=h
 have h4':Kk (Af L (i+3)) 9007199254740992=true:=by simpa using h4
 unfold Kk at h4'
 simp only[Bool.and_eq_true,decide_eq_true_eq]at h4'
 have:=PY (hL (i+3)) h4'.1
 exact⟨rfl,dy (hL _) (by simpa using h2),this.1,this.2⟩
theorem KN(k:Int)(p:Int×List UInt8):(Ur k p).length≤p.2.length+2:=by
 unfold Ur
 split
 ·omega
 ·simp
theorem oJ(op:Int):(Gj op).length≤3:=by
 unfold Gj
 repeat' split
 all_goals simp
theorem Ya(a:Xs)(k:Int):(T2 (tL [a]) 0 k).length≤(tX a).length+2:=by
 rw[tL,tL];exact KN _ _
theorem T3(a b:Xs)(k:Int):(T2 (tL [a,b]) 0 k).length≤(tX a).length+2:=by
 rw[tL];exact KN _ _
theorem T4(a b:Xs)(k:Int):(T2 (tL [a,b]) 1 k).length≤(tX b).length+2:=by
 rw[tL,tL];exact KN _ _
theorem dj{o:Int}(ho:6≤o∧o≤14)(a b:Xs):(tX (EV o a b)).length≤(tX a).length+(tX b).length+9:=by
 have h1:=T3 a b (QW o)
 have h2:=T4 a b (Ga o+1)
 have h3:=oJ o
 rw[EV,tX,Bf,if_neg (by omega),if_neg (by omega),if_neg (by omega),if_neg (by omega),if_neg (by omega),if_neg (by omega),if_neg (by omega),if_neg (by omega)]
 simp only[List.length_append,List.length_cons,List.length_nil]
 omega
theorem di{o:Int}(ho:o=4∨o=5)(a:Xs):(tX (Ji o a)).length≤(tX a).length+6:=by
 have h1:=Ya a 6
 rw[Ji,tX]
 rcases ho with rfl|rfl
 ·rw[Bf,if_neg (by decide),if_neg (by decide),if_neg (by decide),if_neg (by decide),if_neg (by decide),if_pos rfl]
  simp only[List.length_append,List.length_cons,List.length_nil];omega
 ·rw[Bf,if_neg (by decide),if_neg (by decide),if_neg (by decide),if_neg (by decide),if_neg (by decide),if_neg (by decide),if_pos rfl]
  simp only[List.length_cons];omega
def FG:List Xs→Nat
 | []=>0
 |x::l=>(tX x).length+4+FG l
theorem Jw(a b:List Xs):FG (a++b)=FG a+FG b:=by
 induction a with
 |nil=>simp[FG]
 |cons x l ih=>simp only[List.cons_append,FG,ih];omega
theorem UV: ∀l:List Xs,(aN (tL l)).length≤FG l
 | []=>by simp[tL,aN,FG]
 |x::l=>by
  have h:=UV l
  have h1:=KN 4 (opO x,tX x)
  unfold aN at h⊢
  rw[tL,List.flatMap_cons,List.length_append,List.length_append,FG]
  simp only[List.length_cons,List.length_nil]at h1⊢
  omega
theorem dh(l:List Xs):(tX (.mk 15 eB eB 0 l)).length≤FG l+8:=by
 rw[tX,Bf,if_neg (by decide),if_neg (by decide),if_neg (by decide),if_neg (by decide),if_neg (by decide),if_neg (by decide),if_neg (by decide),if_pos rfl]
 cases l with
 |nil=>simp[tL,T2,Ur,M4,FG,Ga]
 | cons a l=>
  have h0:(T2 (tL (a::l)) 0 4).length≤(tX a).length+2:=by rw[tL];exact KN _ _
  have h1:(M4 ((tL (a::l)).drop 1)).length≤FG l:=by
   rw[tL,List.drop_one,List.tail_cons]
   cases l with
   |nil=>simp[tL,M4]
   |cons b l=>
    have h2:=KN 4 (opO b,tX b)
    have h3:=UV l
    rw[tL,M4,List.length_append,FG]
    simp only at h2
    omega
  rw[FG]
  simp only[List.length_append,List.length_cons,List.length_nil]
  omega
theorem ag{t:ByteArray}(h:JE t=true):t.data.toList.length≤16:=by
 unfold JE Bp at h
 simp only[Bool.and_eq_true,decide_eq_true_eq]at h
 rw[←ByteArray.toList_eq,AP];exact h.1.2.1
theorem oS{o:Int}(ho:o=16∨o=17){nm:ByteArray}{n:Int}(h:JE nm=true)(h0:0≤n)(h1:n≤9007199254740992):(tX (.mk o nm eB n [])).length≤50:=by
 have e1:=ag h
 have e2:=G3 (n:=n) (by omega) (by omega)
 rw[tX]
 rcases ho with rfl|rfl
 ·rw[Bf,if_neg (by decide),if_neg (by decide),if_neg (by decide),if_pos rfl]
  simp only[List.length_append,List.length_cons,List.length_nil];omega
 ·rw[Bf,if_neg (by decide),if_neg (by decide),if_neg (by decide),if_neg (by decide),if_pos rfl]
  simp only[List.length_append,List.length_cons,List.length_nil];omega
theorem oQ{n:Int}(h0:0≤n)(h1:n≤9007199254740992):(tX (.mk 1 eB eB n [])).length≤20:=by
 rw[tX,Bf,if_pos rfl];exact G3 (by omega) (by omega)
theorem oR{t:ByteArray}(h:HU t=true):(tX (.mk 2 eB t 0 [])).length≤102:=by
 unfold HU at h
 simp only[Bool.and_eq_true,decide_eq_true_eq]at h
 have:=AP t
 rw[tX,Bf,if_neg (by decide),if_pos rfl,←ByteArray.toList_eq]
 simp only[List.length_append,List.length_cons,List.length_nil];omega
theorem oO{t:ByteArray}(h:JE t=true):(tX (.mk 3 t eB 0 [])).length≤16:=by
 rw[tX,Bf,if_neg (by decide),if_neg (by decide),if_pos rfl];exact ag h
def tG:Qr→Prop
 | .lv _=>True
 | .lp _ t=>wX t=true
 | .ch xs=>xs≠[]∧ ∀x∈xs,wX x=true
def E9:Qr→Nat
 | .lv _=>0
 | .lp _ t=>(tX t).length+2
 | .ch xs=>FG xs+20
def tC(q:Qr)(i:Nat):Rz→Prop
 | .ok t j=>wX t=true∧(tX t).length+2+130*i≤E9 q+130*j
 | .er _ _=>True
theorem tF{L:List LR}(hL:Tz L){q:Qr}{i:Nat}{r:Rz}(h:Pr L q i r):tG q→tC q i r:=by
 induction h with
 |opE _ _ _ _=>intro _;trivial
 | @opO l i j t r a b _ _ ih1 ih2=>
  intro _
  obtain⟨w1,w2⟩:=ih1 trivial
  have:=ih2 w1
  cases r with
  |er=>trivial
  |ok u k=>obtain⟨w3,w4⟩:=this;simp only[E9]at w2 w4;exact⟨w3,by simp only[E9];omega⟩
 |lpN a=>intro h;exact⟨h,by simp only[E9];omega⟩
 |lpE _ _ _=>intro _;trivial
 | @lpO l j k t u o r a _ _ ih1 ih2=>
  intro h
  have ho:=Up a
  obtain⟨w1,w2⟩:=ih1 trivial
  have:=ih2 (dw ho h w1)
  have h3:=dj ho t u
  cases r with
  |er=>trivial
  |ok v m=>obtain⟨w3,w4⟩:=this;simp only[E9]at w2 w4 ⊢;exact⟨w3,by simp only[E9];omega⟩
 |cmE _ _=>intro _;trivial
 |cmN _ _ _ ih=>intro _;exact ih trivial
 |cmF _ _ _ _ _=>intro _;trivial
 | @cmO i j k t u o _ a _ ih1 ih2=>
  intro _
  have ho:=T7 a
  obtain⟨w1,w2⟩:=ih1 trivial
  obtain⟨w3,w4⟩:=ih2 trivial
  have h3:=dj ho t u
  simp only[E9]at w2 w4
  exact⟨dw ho w1 w3,by simp only[E9];omega⟩
 |inP _ _ _ _ _=>intro _;trivial
 | @inC i j t r _ a b c _ ih1 ih2=>
  intro _
  obtain⟨w1,w2⟩:=ih1 trivial
  have:=ih2 ⟨by simp,by simpa using w1⟩
  cases r with
  |er=>trivial
  |ok u k=>obtain⟨w3,w4⟩:=this;simp only[E9,FG]at w2 w4;exact⟨w3,by simp only[E9];omega⟩
 |chE _ _=>intro _;trivial
 | @chM i j xs u r _ a _ ih1 ih2=>
  intro h
  obtain⟨w1,w2⟩:=ih1 trivial
  have:=ih2 ⟨by simp,fun x hx=>by
   rcases List.mem_append.1 hx with e|e
   ·exact h.2 x e
   ·rw[List.mem_singleton.1 e];exact w1⟩
  cases r with
  |er=>trivial
  |ok v k=>obtain⟨w3,w4⟩:=this;simp only[E9,Jw,FG]at w2 w4;exact⟨w3,by simp only[E9];omega⟩
 | @chO i j xs u _ a b ih=>
  intro h
  obtain⟨w1,w2⟩:=ih trivial
  have hp:0<xs.length:=List.length_pos_iff.2 h.1
  refine⟨oY (by rw[List.length_append];simp;omega) fun x hx=> ?_, ?_⟩
  ·rcases List.mem_append.1 hx with e|e
   ·exact h.2 x e
   ·rw[List.mem_singleton.1 e];exact w1
  ·have h3:=dh (xs++[u])
   rw[Jw]at h3
   simp only[E9,FG]at w2 h3⊢
   omega
 |chB _ _ _ _=>intro _;trivial
 | @unO i j t o a _ ih=>
  intro _
  obtain⟨w1,w2⟩:=ih trivial
  have ho:=(VH a).1
  have h3:=di ho t
  simp only[E9]at w2
  exact⟨oZ ho w1,by simp only[E9];omega⟩
 |unE _ _ _=>intro _;trivial
 | @usO i j o n nm a b=>
  intro _
  have ho:=VK a
  obtain⟨rfl,h1,h2,h3⟩:=dr hL b
  have h4:=oS ho h1 h2 h3
  refine⟨?_,by simp only[E9];omega⟩
  have hF:Cy o nm eB n 0=true:=by
   unfold Cy
   rw[if_neg (by omega),if_neg (by omega),if_neg (by omega),if_pos ho,Lp,h1]
   simp[h2,h3]
  simp only[wX,wL,List.length_nil,Bool.and_true]
  exact hF
 |usE _ _ _=>intro _;trivial
 |paE _ _ _=>intro _;trivial
 |paO _ _ _ ih=>intro _;obtain⟨w1,w2⟩:=ih trivial;simp only[E9]at w2;exact⟨w1,by simp only[E9];omega⟩
 |paB _ _ _ _=>intro _;trivial
 | @nu i a=>
  intro _
  obtain⟨h1,h2⟩:=PY (hL i) (VG a)
  have h4:=oQ h1 h2
  refine⟨?_,by simp only[E9];omega⟩
  have hF:Cy 1 eB eB (Af L i).n 0=true:=by
   unfold Cy
   rw[if_pos rfl,Lp]
   simp[h1,h2]
  simp only[wX,wL,List.length_nil,Bool.and_true]
  exact hF
 | @te i a=>
  intro _
  have h1:=oe (hL i) (VJ a)
  have h4:=oR h1
  refine⟨?_,by simp only[E9];omega⟩
  have hF:Cy 2 eB (Af L i).t 0 0=true:=by
   unfold Cy
   rw[if_neg (by decide),if_pos rfl,Lp,h1]
   simp
  simp only[wX,wL,List.length_nil,Bool.and_true]
  exact hF
 | @na i a=>
  intro _
  have h1:=dy (hL i) (VF a)
  have h4:=oO h1
  refine⟨?_,by simp only[E9];omega⟩
  have hF:Cy 3 (Af L i).t eB 0 0=true:=by
   unfold Cy
   rw[if_neg (by decide),if_neg (by decide),if_pos rfl,Lp,h1]
   simp
  simp only[wX,wL,List.length_nil,Bool.and_true]
  exact hF
 |ba _=>intro _;trivial
theorem mr{L:List LR}{i:Nat}(h:(Af L i).k≠0):i<L.length:=by
 rcases Nat.lt_or_ge i L.length with h1|h1
 ·exact h1
 ·refine absurd ?_ h
  unfold Af
  rw[List.getD_eq_getElem?_getD,List.getElem?_eq_none h1];rfl
theorem rC{s:ByteArray}{a:Nat}{t:Xs}(h:PxO s 0 a t):wX t=true∧(tX t).length≤600000:=by
 generalize he:(0:Int)=e at h
 cases h with
 |scan h0=>exact absurd he.symm h0
 |er _ h1=>exact absurd he.symm h1
 |more=>cases he
 | @ok _ j x h0 h1 h2 h3=>
  obtain⟨K,_,_,_,hl⟩:=DY h0
  obtain⟨w1,w2⟩:=tF (Jz h0) h1 trivial
  simp only[E9]at w2
  have:=(List.getElem?_eq_some_iff.1 h2).1
  exact⟨w1,by omega⟩
theorem Oo(x:Xs):CS 1 x=kX x:=by unfold CS YN;rw[if_pos (Ok _).1]
theorem Og(t:ByteArray):Aw (C4 t) 1 t=true:=by simp[Aw,C4]
theorem Of(t:ByteArray):Aw (Cb t) 4 t=true:=by simp[Aw,Cb]
theorem ez{T:List Tk}{L K:List LR}{e:LR}(hL:L=K++[e])(hK:K.map Cl=(BS T).map Cl)(he:e.k=0):LS L 0 (BS T)∧(Af L (0+ln T)).k=0:=by
 have hlen:K.length=ln T:=by have:=congrArg List.length hK;simpa[ln]using this
 subst hL
 refine⟨fun j x hx=> ?_, ?_⟩
 ·have h1:(K.map Cl)[j]? =some (Cl x):=by rw[hK,List.getElem?_map,hx];rfl
  rw[List.getElem?_map]at h1
  cases hk:K[j]? with
  |none=>rw[hk]at h1;cases h1
  |some y=>
   rw[hk]at h1
   have hj:=(List.getElem?_eq_some_iff.1 hk).1
   rw[Eo (x:=y) (by rw[Nat.zero_add,List.getElem?_append_left hj];exact hk)]
   simpa using h1
 ·rw[Eo (x:=e) (by rw[Nat.zero_add,←hlen,List.getElem?_append_right (Nat.le_refl _)];simp)]
  exact he
theorem kG{x:LR}(h:x.k=0):OG 0 x:=by
 have: ∀(k:Int) (t:ByteArray),k≠0→Aw x k t=false:=fun k t hk=>by unfold Aw;rw[h];simp;intro e;exact absurd e.symm hk
 refine .of ?_ ?_ ?_ ?_ ?_<;>intro _<;>simp[EP,Ge,Mp,this]
theorem bc{t:Xs}(h:wX t=true)(hl:(tX t).length≤4000):PxO (bs (tX t)) 0 0 t:=by
 have hw:=Kb t h
 obtain⟨K,k1,k2⟩:=df (kX t) (s9 hw [] (.inl rfl)) (by rw[FP];exact hl)
 rw[FP]at k1
 obtain⟨a1,a2⟩:=ez (L:=(AG (bs (tX t))).2.2) (by rw[k1]) k2 rfl
 have hs:OG 0 (Af (AG (bs (tX t))).2.2 (0+ln (kX t))):=by
  exact kG a2
 have hx:=(Z8 hw 0 1 rfl (by omega)).1 _ 0 (by rw[Oo];exact a1) (by rw[Oo];exact hs)
 rw[Oo,Nat.zero_add]at hx
 rw[Nat.zero_add]at a2
 have hlen:K.length=ln (kX t):=by have:=congrArg List.length k2;simpa[ln]using this
 obtain⟨x,hx1,hx2⟩:=CA (L:=(AG (bs (tX t))).2.2) (j:=ln (kX t)) (by rw[k1];simp[hlen])
 exact .ok (by rw[k1]) hx hx1 (by rw[←hx2];exact a2)
theorem mw{s:ByteArray}(h:JE s=true):s.data.toList≠[]:=by
 intro e
 unfold JE Bp at h
 simp only[Bool.and_eq_true,decide_eq_true_eq]at h
 have:=AP s
 rw[ByteArray.toList_eq,e]at this
 simp at this;omega
theorem rU{t:Xs}(h:wX t=true):tX t≠[]:=by
 have hw:=Kb t h
 clear h
 cases hw with
 |num=>rw[tX,Bf,if_pos rfl];exact Jd _
 |txt=>rw[tX,Bf,if_neg (by decide),if_pos rfl];simp
 |nam h=>rw[tX,Bf,if_neg (by decide),if_neg (by decide),if_pos rfl];exact mw h
 |use h=>rw[tX];rcases h with rfl|rfl<;>simp[Bf]
 |one h=>rw[tX];rcases h with rfl|rfl<;>simp[Bf]
 |two h=>rw[tX,Bf,if_neg (by omega),if_neg (by omega),if_neg (by omega),if_neg (by omega),if_neg (by omega),if_neg (by omega),if_neg (by omega),if_neg (by omega)];simp
 |inn=>rw[tX];simp[Bf]
end Go.Proofs.YtgmfcdeknaeikaaGreatDoor
