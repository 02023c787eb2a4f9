/-
Lists and maps over known blocks; plans.
Conditions: none.
-/
import Derived.Test.YtgmfcdeknaeikaaGreatDoorVmAP
set_option linter.unusedSimpArgs false
set_option linter.unusedVariables false
namespace Go.Vm
def Dis(B A:AH):Prop:= ∀x,AA A x≠none→AA B x=none
theorem Dis.nil(A:AH):Dis [] A:=fun _ _=>rfl
theorem Dis.symm{B A:AH}(h:Dis B A):Dis A B:=fun x hx=>by
 cases ha:AA A x with
 |none=>rfl
 |some o=>exact absurd (h x (by rw[ha];simp)) hx
theorem Dis.right{B A:AH}(h:Dis B A):SubA A (B++A):=SubA.right h
theorem Dis.app{B C A:AH}(h:Dis B A)(k:Dis C A):Dis (B++C) A:=fun x hx=>AD (h x hx) (k x hx)
theorem Dis.appr{B C A:AH}(h:Dis A B)(k:Dis A C):Dis A (B++C):=(Dis.app h.symm k.symm).symm
def B5{α:Type}(f:α→List Value)(n:Nat)(A:AH)(p:Option Addr)(L:List α):Prop:=L=[]∨ ∃(b off:Nat) (cs:Array Value) (e:TypeId) (fr:Nat×Nat),p=some ⟨b,off,none⟩∧AA A b=some (.cells cs e fr)∧ ∀(i:Nat) (a:α),L[i]? =some a→DW (some (.cells cs e fr)) (off+i*n) n=some (f a).toArray
theorem B5.mono{α:Type}{f:α→List Value}{n:Nat}{A B:AH}{p:Option Addr}{L:List α}(h:B5 f n A p L)(hs:SubA A B):B5 f n B p L:=by
 rcases h with h|⟨b,off,cs,e,fr,h1,h2,h3⟩
 ·exact .inl h
 ·exact .inr ⟨b,off,cs,e,fr,h1,hs _ _ h2,h3⟩
theorem B5.nil{α:Type}{f:α→List Value}{n:Nat}{A:AH}{p:Option Addr}:B5 f n A p ([]:List α):=.inl rfl
theorem B5.at{α:Type}{f:α→List Value}{n:Nat}{A:AH}{p:Option Addr}{L:List α}(h:B5 f n A p L){i:Nat}{a:α}(hi:L[i]? =some a):
  ∃(b off:Nat) (cs:Array Value) (e:TypeId) (fr:Nat×Nat),p=some ⟨b,off,none⟩∧AA A b=some (.cells cs e fr)∧DW (some (.cells cs e fr)) (off+i*n) n=some (f a).toArray∧ ∀j u,(f a)[j]? =some u→cs[off+i*n+j]? =some u:=by
 rcases h with h|⟨b,off,cs,e,fr,h1,h2,h3⟩
 ·rw[h]at hi;cases hi
 ·have:=h3 i a hi
  exact⟨b,off,cs,e,fr,h1,h2,this,(CU this).2⟩
theorem bm{o:Option Obj}{i n m:Nat}{x y:List Value}(h1:DW o i n=some x.toArray)(h2:DW o (i+n) m=some y.toArray):DW o i (n+m)=some (x++y).toArray:=by
 obtain⟨cs,e,fr,rfl⟩:=D7 h1
 obtain⟨l1,c1⟩:=CU h1
 obtain⟨l2,c2⟩:=CU h2
 unfold DW at h1 h2⊢
 simp only at h1 h2⊢
 split at h1
 ·split at h2
  ·rename_i q1 q2
   rw[if_pos (by omega)]
   congr 1
   apply Array.ext'
   have e1:=congrArg Array.toList (Option.some.inj h1)
   have e2:=congrArg Array.toList (Option.some.inj h2)
   simp only[Array.toList_extract,List.extract_eq_take_drop]at e1 e2⊢
   rw[←e1,←e2]
   have a1:i+(n+m) - i=n+m:=by omega
   have a2:i+n - i=n:=by omega
   have a3:i+n+m - (i+n)=m:=by omega
   rw[a1,a2,a3,List.take_add,List.drop_drop]
  ·cases h2
 ·cases h1
theorem B5.all{α:Type}{f:α→List Value}{n:Nat}: ∀{L:List α} {cs:Array Value} {e:TypeId} {fr:Nat×Nat} {off:Nat},L≠[]→(∀(i:Nat) (a:α),L[i]? =some a→DW (some (.cells cs e fr)) (off+i*n) n=some (f a).toArray)→
  DW (some (.cells cs e fr)) off (L.length*n)=some (L.flatMap f).toArray
 | [],_,_,_,_,h,_=>absurd rfl h
 | [a],cs,e,fr,off,_,h=>by
  have:=h 0 a rfl
  simpa using this
 | a::b::l,cs,e,fr,off,_,h=>by
  have h0:=h 0 a rfl
  have ih:=B5.all (f:=f) (n:=n) (L:=b::l) (cs:=cs) (e:=e) (fr:=fr) (off:=off+n) (by simp) (fun i x hx=>by
   have:=h (i+1) x (by simpa using hx)
   rw[show off+(i+1)*n=off+n+i*n by rw[Nat.succ_mul];omega]at this
   exact this)
  simp only[Nat.zero_mul,Nat.add_zero]at h0
  have:=bm h0 ih
  rw[show(a::b::l).length*n=n+(b::l).length*n by rw[List.length_cons (a:=a),Nat.succ_mul];omega]
  exact this
theorem B5.src{α:Type}{f:α→List Value}{n:Nat}{A:AH}{p:Option Addr}{L:List α}(h:B5 f n A p L):(L.length=0∧L.flatMap f=[])∨ ∃g off,p=some ⟨g,off,none⟩∧DW (AA A g) off (L.length*n)=some (L.flatMap f).toArray:=by
 by_cases hn:L=[]
 ·subst hn;exact .inl ⟨rfl,rfl⟩
 ·rcases h with h|⟨b,off,cs,e,fr,h1,h2,h3⟩
  ·exact absurd h hn
  ·exact .inr ⟨b,off,h1,by rw[h2];exact B5.all hn h3⟩
def lK(e:TypeId)(size:Nat)(v:Value)(B:AH)(n:Nat)(xs:List Value):Prop:=Ea e size v B n xs∨((∃p,v=.slice p 0 0)∧B=[]∧n=0∧xs=[])
theorem D0{P:Program}{t ty e:TypeId}{size bytes:Nat}{z:Value}{A B:AH}{K:Value→AH→Prop}{n m c:Nat}{q:Option Addr}{v:Value}{xs news:List Value}
  (hs:MW P t=some (e,size,bytes)) (hz:JA P e=some z) (hzs:z.cells.size=size) (hsz:0<size)
  (hown:lK e size v B n xs) (hB:SubA B A) (hr:(m=0∧news=[])∨ ∃g off,q=some ⟨g,off,none⟩∧DW (AA A g) off (m*size)=some news.toArray) (h1: ∀u∈news,u.oneCell'=true)
  (h63:n+m≤maxLen) (hbytes:(n+m)*bytes≤140737488355328)
  (hK: ∀v' B',lK e size v' B' (n+m) (xs++news)→(∀b,AA B' b≠none→AA B b≠none∨AA A b=none)→K v' (B'++A)):
  Fv P (Builtin.append_ #[t,t] ty #[v,.slice q m c]) A K:=by
 by_cases hm:m=0
 ·
  intro h hA w hw
  subst hw
  obtain⟨ht,i,hi,e1,e2⟩:=EC hs
  simp only at e1 e2
  subst e1
  subst e2
  have hn:news=[]:=by
   rcases hr with hr|⟨g,off,_,hr⟩
   ·exact hr.2
   ·obtain⟨cc,ce,cfr,hlook⟩:=D7 hr
    rw[hlook]at hr
    obtain⟨hl,_⟩:=CU hr
    exact List.eq_nil_of_length_eq_zero (by rw[hl,hm];simp)
  subst hm
  subst hn
  have key: ∀p k c',k≤c'→(Builtin.append_ #[t,t] ty #[.slice p k c',.slice q 0 c]).run P w=.ok (.slice p k c') w:=by
   intro p k c' hk
   cases p with
   |none=>cases q<;>simp[Builtin.append_,run_underlying ht,sizeOf,typeInfo,hi,Builtin.lenOf,Builtin.firstCells,loadCells,loadCellsFrom,hk]
   |some a=>cases q<;>simp[Builtin.append_,run_underlying ht,sizeOf,typeInfo,hi,Builtin.lenOf,Builtin.firstCells,loadCells,loadCellsFrom,hk,storeCells]
  have same: ∀b,AA B b≠none→AA B b≠none∨AA A b=none:=fun b hb=>.inl hb
  have sat2:CQ (B++A) w.heap:=fun b o hl=>by
   rw[BA]at hl
   cases hb:AA B b with
   |none=>rw[hb]at hl;exact hA b o hl
   |some u=>rw[hb]at hl;cases hl;exact hA _ _ (hB _ _ hb)
  have keep2:BN A w.heap (B++A) w.heap:=⟨Nat.le_refl _,fun b _ hb=>⟨rfl,AD (hB.none hb) hb⟩⟩
  have hv: ∃p c',v=.slice p n c'∧n≤c':=by
   rcases hown with⟨_,⟨rfl,rfl,rfl⟩|⟨g,cap,cur,rfl,rfl,h5,_⟩⟩|⟨⟨p,rfl⟩,_,rfl,_⟩
   ·exact⟨_,_,rfl,by omega⟩
   ·exact⟨_,_,rfl,h5⟩
   ·exact⟨_,_,rfl,by omega⟩
  obtain⟨p,c',rfl,hc'⟩:=hv
  refine⟨_,w,key p n c' hc',⟨rfl,rfl,rfl⟩,B++A,sat2,keep2,hK _ _ ?_ same⟩
  simpa using hown
 ·obtain⟨g,off,rfl,hr2⟩: ∃g off,q=some ⟨g,off,none⟩∧DW (AA A g) off (m*size)=some news.toArray:=by
   rcases hr with hr|hr
   ·exact absurd hr.1 hm
   ·exact hr
  clear hr
  have hr:=hr2
  clear hr2
  rcases hown with hown|⟨⟨p,rfl⟩,rfl,rfl,rfl⟩
  ·exact Hj hs hz hzs hsz hown hB hr h1 h63 hbytes (fun v' B' o d=>hK v' B' (.inl o) d)
  ·cases p with
   |none=>exact Hj hs hz hzs hsz (Ea.nil e size) (fun _ _ h=>by cases h) hr h1 h63 hbytes (fun v' B' o d=>hK v' B' (.inl o) d)
   | some a=>
    intro h hA w hw
    subst hw
    obtain⟨ht,i,hi,e1,e2⟩:=EC hs
    have hz':i.zero=some z:=by unfold JA at hz;rw[hi]at hz;exact hz
    simp only at e1 e2
    subst e1
    subst e2
    obtain⟨cc,ce,cfr,hlook⟩:=D7 hr
    rw[hlook]at hr
    obtain⟨hl,hcell⟩:=CU hr
    have hnews: ∀j u,news[j]? =some u→w.cell? ((⟨g,off,none⟩:Addr).add j)=some u:=by
     intro j u hj
     rw[Eb]
     have:=hA _ _ hlook
     simp only[World.cell?,this]
     simpa using hcell j u hj
    have h63':0+m≤9223372036854775807:=by simp only[maxLen]at h63;omega
    have hr2:=run_append_grow (P:=P) w t ty e i z ht hi hz' a 0 0 [] (by simp) (by simp) ⟨g,off,none⟩ m c news hl hnews (by omega) (by omega) (growslice_fits (by omega) hbytes)
    refine⟨_,_,hr2,⟨rfl,rfl,rfl⟩,_,hA.push,BN.push, ?_⟩
    refine hK _ [(w.heap.size,_)] (.inl ⟨by simp[hl],.inr ⟨_,_,_,rfl,rfl,grownCap_ge w (0+m) 0 e,grownCap_le_maxLen w (0+m) 0 e h63, ?_, ?_⟩⟩) (fun b hb=> ?_)
    ·have hge:=grownCap_ge w (0+m) 0 e
     simp only[Array.size_append,List.size_toArray,size_zeroCells,hzs,hl,List.length_nil,Nat.zero_add]at hge⊢
     rw[←Nat.add_mul]
     congr 1
     omega
    ·simp only[Array.toList_append,Nat.zero_add,List.nil_append]
     rw[←hl]
     exact List.take_left
    ·simp only[AA]at hb
     split at hb
     ·rename_i e;subst e;exact .inr (hA.none_of_size (Nat.le_refl _))
     ·exact absurd rfl hb
def BU{α:Type}(f:α→List Value)(n:Nat)(e:TypeId)(v:Value)(B:AH)(L:List α):Prop:=lK e n v B L.length (L.flatMap f)
theorem BU.nil{α:Type}(f:α→List Value)(n:Nat)(e:TypeId):BU f n e (.slice none 0 0) [] ([]:List α):=.inl (Ea.nil e n)
theorem BU.nilp{α:Type}(f:α→List Value)(n:Nat)(e:TypeId)(p:Option Addr):BU f n e (.slice p 0 0) [] ([]:List α):=.inr ⟨⟨p,rfl⟩,rfl,rfl,rfl⟩
theorem BU.at0{α:Type}(f:α→List Value)(n:Nat)(e:TypeId)(g:Nat):BU f n e (.slice (some ⟨g,0,none⟩) 0 0) [(g,.cells #[] e)] ([]:List α):=.inl (Ea.at (xs:=[]) (by simp) (by simp))
theorem BU.blk{α:Type}{f:α→List Value}{n:Nat}{e:TypeId}{v:Value}{B:AH}{L:List α}(o:BU f n e v B L)(h:L≠[]):
  ∃g cap cur,v=.slice (some ⟨g,0,none⟩) L.length cap∧B=[(g,.cells cur e)]∧L.length≤cap∧cap≤maxLen∧cur.size=cap*n∧cur.toList.take (L.length*n)=L.flatMap f:=by
 rcases o with⟨h1,⟨_,_,h0⟩|⟨g,cap,cur,h2,h3,h4⟩⟩|⟨_,_,h0,_⟩
 ·exact absurd (List.eq_nil_of_length_eq_zero h0) h
 ·exact⟨g,cap,cur,h2,h3,h4⟩
 ·exact absurd (List.eq_nil_of_length_eq_zero h0) h
theorem BU.slice{α:Type}{f:α→List Value}{n:Nat}{e:TypeId}{v:Value}{B:AH}{L:List α}(o:BU f n e v B L): ∃p cap,v=.slice p L.length cap∧L.length≤cap:=by
 rcases o with⟨h1,⟨h2,_,h0⟩|⟨g,cap,cur,h2,h3,h4,_⟩⟩|⟨⟨p,h2⟩,_,h0,_⟩
 ·exact⟨none,0,by rw[h2,h0],by omega⟩
 ·exact⟨_,cap,h2,h4⟩
 ·exact⟨p,0,by rw[h2,h0],by omega⟩
theorem BU.read{α:Type}{f:α→List Value}{n:Nat}{e:TypeId}{v:Value}{B:AH}{L:List α}(hf: ∀x,(f x).length=n)(o:BU f n e v B L): ∃p cap,v=.slice p L.length cap∧L.length≤cap∧B5 f n B p L:=by
 by_cases h:L=[]
 ·obtain⟨p,cap,h1,h2⟩:=o.slice
  exact⟨p,cap,h1,h2,.inl h⟩
 ·obtain⟨g,cap,cur,h1,rfl,h3,h4,h5,h6⟩:=o.blk h
  refine⟨_,cap,h1,h3,.inr ⟨g,0,cur,e,(0,0),rfl,by simp[AA],fun i a hi=> ?_⟩⟩
  have hlt:=(List.getElem?_eq_some_iff.1 hi).1
  have e1:i*n+n≤L.length*n:=by rw[←Nat.succ_mul];exact Nat.mul_le_mul_right _ hlt
  have e2:L.length*n≤cap*n:=Nat.mul_le_mul_right _ h3
  rw[B7,if_pos (by omega)]
  congr 1
  apply Array.ext'
  have:=OZ f n hf L i a hi
  rw[←this,←h6]
  simp only[Array.toList_extract,List.extract_eq_take_drop,List.drop_take,List.take_take,Nat.zero_add]
  congr 1
  omega
theorem BU.mem{α:Type}{f:α→List Value}{n:Nat}{e:TypeId}{v:Value}{B:AH}{L:List α}(o:BU f n e v B L):B=[]∨ ∃g cap cur,v=.slice (some ⟨g,0,none⟩) L.length cap∧B=[(g,.cells cur e)]:=by
 rcases o with⟨h1,⟨h2,h,h0⟩|⟨g,cap,cur,h2,h3,h4,_⟩⟩|⟨⟨p,h2⟩,h,h0,_⟩
 ·exact .inl h
 ·exact .inr ⟨g,cap,cur,h2,h3⟩
 ·exact .inl h
theorem Kp: ∀(vs:List Value) (c:Array Value) (o:Nat),o+vs.length≤c.size→(By c o vs).toList=c.toList.take o++vs++c.toList.drop (o+vs.length)
 | [],c,o,h=>by simp[By]
 |v::l,c,o,h=>by
  simp only[List.length_cons]at h
  simp only[By]
  rw[Kp l _ _ (by simp;omega)]
  have ho:o<c.toList.length:=by simp;omega
  simp only[Array.toList_setIfInBounds]
  rw[List.take_set,List.drop_set_of_lt (by omega),List.take_add_one,List.getElem?_eq_getElem ho]
  have hl:(c.toList.take o).length=o:=by simp;omega
  rw[List.set_append_right _ _ (by omega),hl]
  simp
  congr 1
  omega
theorem QG{α β:Type}(f:α→List β)(n:Nat)(hf: ∀x,(f x).length=n): ∀(L:List α) (i:Nat) (a:α),i<L.length→(L.set i a).flatMap f=(L.flatMap f).take (i*n)++f a++(L.flatMap f).drop (i*n+n)
 |x::l,0,a,_=>by simp[List.drop_left' (hf x)]
 |x::l,i+1,a,h=>by
  simp only[List.set_cons_succ,List.flatMap_cons]
  rw[QG f n hf l i a (by simpa using h)]
  have e1:(i+1)*n=(f x).length+i*n:=by rw[hf,Nat.succ_mul];omega
  rw[e1,List.take_length_add_append,Nat.add_assoc,List.drop_length_add_append]
  simp
theorem BU.set{α:Type}{f:α→List Value}{n:Nat}{e:TypeId}{v:Value}{L:List α}(hf: ∀x,(f x).length=n){g:Nat}{cur:Array Value}(o:BU f n e v [(g,.cells cur e)] L){i:Nat}(hi:i<L.length)(a:α):
  BU f n e v [(g,.cells (By cur (i*n) (f a)) e)] (L.set i a)∧i*n+n≤cur.size:=by
 have hne:L≠[]:=by intro h;subst h;simp at hi
 obtain⟨g',cap,cur',h1,h2,h3,h4,h5,h6⟩:=o.blk hne
 cases h2
 have e1:i*n+n≤L.length*n:=by rw[←Nat.succ_mul];exact Nat.mul_le_mul_right _ hi
 have e2:L.length*n≤cap*n:=Nat.mul_le_mul_right _ h3
 have hle:i*n+n≤cur.size:=by omega
 refine⟨.inl ⟨by rw[Gv f n hf],.inr ⟨g,cap,_,by rw[h1,List.length_set],rfl,by simpa using h3,h4,by rw[RG,h5], ?_⟩⟩,hle⟩
 rw[Kp _ _ _ (by rw[hf];omega),QG f n hf L i a hi,List.length_set,hf,←h6]
 have hsz:cur.toList.length=cap*n:=by simpa using h5
 have l1:(cur.toList.take (i*n)++f a).length=i*n+n:=by simp[hf];omega
 rw[List.take_append,l1,List.take_of_length_le (by omega),List.take_take,Nat.min_eq_left (by omega),List.drop_take]
theorem AR.at[dd:DefD]{c:CxA}{body:Code}{k:List It}{ρ:Ak}{A A':AH}(ha:SubA A A')(hl: @AR dd c body k ρ A ()): @AR dd c body k ρ A' ():=fun A0 h0 h hA kp=>hl A0 h0 h (hA.sub ha) (kp.sub ha)
theorem AU{A:AH}{x b:Nat}{o:Obj}(hx:AA A x=none)(hb:AA A b=some o):((x=b)=False)∧((b=x)=False):=
 ⟨eq_false (fun e=>by rw[e,hb]at hx;cases hx),eq_false (fun e=>by rw[←e,hb]at hx;cases hx)⟩
theorem SubA.both{X Y Z:AH}(h:SubA X Z)(k:SubA Y Z):SubA (X++Y) Z:=fun b o hl=>by
 rw[BA]at hl
 cases hb:AA X b with
 |some u=>rw[hb]at hl;cases hl;exact h _ _ hb
 |none=>rw[hb]at hl;exact k _ _ hl
theorem Dis.sub{A B X:AH}(d:Dis A B)(h:SubA B X):SubA B (A++X):=fun b o hl=>by
 rw[F7 (d b (by rw[hl];simp))];exact h b o hl
theorem SubA.fresh{A X:AH}{x:Nat}{o:Obj}(hx:AA X x=Option.none)(h:SubA A X):SubA A ((x,o)::X):=SubA.skip (h.none hx) h
theorem J5{C' C A X:AH}(hb: ∀b,AA C' b≠none→AA C b≠none∨AA A b=none)(d:Dis C X)(hs:SubA X A):Dis C' X:=fun x hx=>by
 cases hc:AA C' x with
 |none=>rfl
 |some o=>
  rcases hb x (by rw[hc];simp)with h|h
  ·exact absurd (d x hx) h
  ·exact absurd (hs.none h) hx
theorem Dis.less{B B' X:AH}(d:Dis B X)(h: ∀b,AA B b=none→AA B' b=none):Dis B' X:=fun x hx=>h x (d x hx)
theorem Dis.one{X:AH}{x:Nat}{o:Obj}(h:AA X x=none):Dis [(x,o)] X:=fun b hb=>by
 simp only[AA]
 rw[if_neg (fun e=>by subst e;exact hb h)]
theorem AK.go{P:Program}{g:FuncId}{args:Array Value}{A A0:AH}{K0 K:Value→AH→Prop}(hc:AK P g args A0 K0)(hs:SubA A0 A)(h0: ∀v D,K0 v D→SubA A0 D)
  (hk: ∀v D A',K0 v D→SubA D A'→SubA A A'→(∀x,AA D x≠none→AA A0 x=none→AA A x=none)→K v A'):AK P g args A K:=by
 refine AK.frame hc hs fun v D hv=>⟨fun x hx=> ?_,fun hx=>hk v D _ hv (SubA.left _ _) (fun b o hl=> ?_) hx⟩
 ·cases hl:AA A0 x with
  |none=>exact absurd hl hx
  |some o=>rw[h0 v D hv x o hl];simp
 ·rw[BA]
  cases hd:AA D b with
  |none=>exact hl
  | some u=>
   cases ha:AA A0 b with
   |none=>have:=hx b (by rw[hd];simp) ha;rw[this]at hl;cases hl
   |some w=>
    have e1:=h0 v D hv b w ha
    have e2:=hs b w ha
    rw[hd]at e1;rw[hl]at e2
    rw[e1,e2]
theorem CQ.both{A B:AH}{h:AL}(hA:CQ A h)(hB:CQ B h):CQ (A++B) h:=fun b o hl=>by
 rw[BA]at hl
 cases ha:AA A b with
 |none=>rw[ha]at hl;exact hB b o hl
 |some u=>rw[ha]at hl;cases hl;exact hA b _ ha
end Go.Vm
namespace Go.Vm
theorem O2{A:AH}{h:AL}{r:Nat}{o u:Obj}(hA:CQ A h)(hr:AA A r=some o):CQ (Dw A r u) (h.setIfInBounds r u)∧BN A h (Dw A r u) (h.setIfInBounds r u):=by
 have hlt:=hA.lt hr
 refine⟨fun b w hl=> ?_,⟨by simp,fun b hb hn=> ?_⟩⟩
 ·rw[Df]at hl
  split at hl
  ·rename_i e
   subst e
   rw[hr]at hl
   cases hl
   simp[hlt]
  ·rename_i e
   rw[Array.getElem?_setIfInBounds,if_neg (fun x=>e x.symm)]
   exact hA b w hl
 ·have hbr: ¬b=r:=fun e=>by rw[e,hr]at hn;cases hn
  refine⟨by rw[Array.getElem?_setIfInBounds,if_neg (fun x=>hbr x.symm)], ?_⟩
  rw[Df,if_neg hbr]
  exact hn
theorem SubA.put{X A:AH}{r:Nat}{u:Obj}(h:SubA X A)(hr:AA X r=Option.none):SubA X (Dw A r u):=fun b o hl=>by
 rw[Df]
 rw[if_neg (fun e=>by rw[e,hr]at hl;cases hl)]
 exact h b o hl
section
variable {P:Program} {t kt et:TypeId} {r cl:Nat} {es:Array MapEntry} {m:HN} {s:ByteArray} {A:AH}
theorem GO{ok:Bool}{z:Value}(ht:P.underlying t=some (.map kt et))(hk:P.underlying kt=some .string)(hz:JA P et=some z)(hr:AA A r=some (.map es cl))(hm:DK es m):
  Ex P (Instr.lookup t (.map (some r)) (.string s) ok) A=some (if ok then .tuple #[(EO m s).getD z,.bool (EO m s).isSome]else(EO m s).getD z):=by
 refine Jn fun w hw=> ?_
 have hr:=hw _ _ hr
 have hc: ∀b,(Instr.checkKey b 10000 kt (.string s)).run P w=.ok () w:=fun b=>MapKept.run_checkKey (k:=.string s) hk (by simp[MapKept.IsKey]) b 9999
 have hf:=MapKept.run_findKey (w:=w) hk (GF s es.toList m 0 hm)
 have hzv:(zeroValue et).run P w=.ok z w:=kT hz
 cases hp:GN m s with
 |none=>
  rw[hp]at hf
  cases ok<;>simp[Instr.lookup,run_underlying ht,MapKept.run_getObj_map hr,hc,hf,EO,hp,hzv,Result.andThen]
 |some p=>
  rw[hp]at hf
  cases ok<;>simp[Instr.lookup,run_underlying ht,MapKept.run_getObj_map hr,hc,hf,EO,hp,Result.andThen]
variable {K:Value→AH→Prop}
theorem N0{v:Value}(ht:P.underlying t=some (.map kt et))(hk:P.underlying kt=some .string)(hr:AA A r=some (.map es cl))(hm:DK es m)
  (hK: ∀es' cl',DK es' (K5 m s v)→K undef (Dw A r (.map es' cl'))):Fv P (do Instr.mapUpdate t (.map (some r)) (.string s) v;Pure.pure undef) A K:=fun h hA=>
 XY ht hk (hA _ _ hr) hm fun es' cl' h1=>⟨_,(O2 hA hr).1,(O2 hA hr).2,hK es' cl' h1⟩
end
theorem AK.use{P:Program}{g:FuncId}{args:Array Value}{A A0:AH}{K0 K:Value→AH→Prop}(hc:AK P g args A0 K0)(hs:SubA A0 A)(h0: ∀v D,K0 v D→ ∀b,AA A0 b≠none→AA D b≠none)
  (X:AH) (hX:SubA X A) (hd:Dis A0 X) (hk: ∀v D,K0 v D→Dis D X→ ∃E,SubA E D∧K v (E++X)):AK P g args A K:=by
 have hf:AK P g args A fun v A'=> ∃A'',SubA A'' A'∧K v A'':=by
  refine AK.frame hc hs fun v D hv=>⟨h0 v D hv,fun hx=> ?_⟩
  have dD:Dis D X:=fun x hx1=>by
   cases hd1:AA D x with
   |none=>rfl
   |some o=>
    have:=hx x (by rw[hd1];simp) (hd x hx1)
    exact absurd (hX.none this) hx1
  obtain⟨E,h1,h2⟩:=hk v D hv dD
  exact⟨E++X,SubA.both (fun b o hl=>SubA.left _ _ b o (h1 b o hl)) (dD.sub hX),h2⟩
 intro h hA
 have:=hf h hA
 unfold Di at this⊢
 have mono: ∀e h',Gl A h (fun v A'=> ∃A'',SubA A'' A'∧K v A'') e h'→Gl A h K e h':=by
  rintro e h' ⟨v,A',h1,h2,h3,A'',h4,h5⟩
  exact⟨v,A'',h1,h2.sub h4,h3.sub h4,h5⟩
 split
 ·rename_i hcal
  rw[if_pos hcal]at this
  exact this.mono0 mono
 ·rename_i hcal
  rw[if_neg hcal]at this
  intro w hw
  obtain⟨v,w',r1,r2,r3⟩:=this w hw
  exact⟨v,w',r1,r2,mono _ _ r3⟩
theorem Fv.use{P:Program}{s:Sem Value}{A:AH}{K:Value→AH→Prop}(hr:Fv P s A fun v A'=> ∃A'',SubA A'' A'∧K v A''):Fv P s A K:=fun h hA w hw=>by
 obtain⟨v,w',r1,r2,A',h1,h2,A'',h3,h4⟩:=hr h hA w hw
 exact⟨v,w',r1,r2,A'',h1.sub h3,h2.sub h3,h4⟩
theorem Dis.subl{D E X:AH}(d:Dis D X)(h:SubA E D):Dis E X:=fun x hx=>h.none (d x hx)
end Go.Vm
namespace Go.Vm
theorem Qw{o:Option Obj}{i N n k:Nat}{xs:List Value}(h:DW o i N=some xs.toArray)(hk:k+n≤N):DW o (i+k) n=some ((xs.drop k).take n).toArray:=by
 obtain⟨cs,e,fr,rfl⟩:=D7 h
 unfold DW at h⊢
 simp only at h⊢
 split at h
 ·rename_i hle
  rw[if_pos (by omega)]
  congr 1
  apply Array.ext'
  have h1:=congrArg Array.toList (Option.some.inj h)
  simp only[Array.toList_extract,List.extract_eq_take_drop]at h1⊢
  rw[←h1,List.drop_take,List.take_take,List.drop_drop]
  congr 1
  omega
 ·cases h
theorem B5.of_row{α:Type}{f:α→List Value}{n:Nat}(hf: ∀x,(f x).length=n){B:AH}{g off:Nat}{L:List α}(h:DW (AA B g) off (L.length*n)=some (L.flatMap f).toArray):B5 f n B (some ⟨g,off,none⟩) L:=by
 obtain⟨cs,e,fr,hl⟩:=D7 h
 refine .inr ⟨g,off,cs,e,fr,rfl,hl,fun i a hi=> ?_⟩
 have hlt:=(List.getElem?_eq_some_iff.1 hi).1
 rw[hl]at h
 have:=Qw (k:=i*n) (n:=n) h (by rw[←Nat.succ_mul];exact Nat.mul_le_mul_right _ hlt)
 rw[OZ f n hf L i a hi]at this
 exact this
end Go.Vm
namespace Go.Vm
set_option maxRecDepth 20000
theorem Av.plan[dd:DefD]{c:CxA}{id:Nat}{ops:Array Oper}{k:List It}{ρ:Ak}{A:AH}(pl:List (Nat×Nat))(As:AH)(hAs:SubA As A)(hm:c.P.follows .mixedOrders=true)(hs:Region.noSelect ops=true)(hl:pl.length=ops.size)(hrs:Dr ops (H0 pl)=true)(hpl:G7 c.imp ops (H0 pl) pl (Array.replicate ops.size false)=true)
  (hok:M5 c.P c.imp c.plans k=true) (hd: ∀ν,Bu ν A→Cf c.P c.imp c.n ops.toList pl As ν 0 ρ A fun ν n ρ' A=>Az c k ν n ρ' A): @Av dd c (.code (.region id ops true)::k) ρ A ():=by
 intro A0 h0 h hsat kp hf b a w hb hn hk hw
 subst hw
 refine .of_wp (?_:(Code.region id ops true).wp c.P (fun e a' w'=>match e with| .normal=>Ch c.P b (k.map It.item) a' w' (fun e w'=>(c.cx A0 h0).R e w'.heap∧Ai w w')| .panic ch=>a'.defers=DefD.ds∧((c.cx A0 h0).R (.panicked ch) w'.heap∧Ai w w')|_=>False) a w) ⟨c.fn,by rw[hb];exact hf⟩ (fun e a' w' hq=>hq)
 have st:=St.start hsat
 have f1:Ca (fun i=>w.heap.size+i) 0 A (fun ν'=>Cf c.P c.imp c.n ops.toList pl As ν' 0 ρ A fun ν n ρ' A=>Az c k ν n ρ' A):=Ca.fresh hd
 refine wp_region_any hm (E6 (Inv:=Dt A0 h0 w) (le:=Gf) (rs:=H0 pl) (QA:=fun a' s=> ∃ρ',BO c.n ρ' a'∧Ca s.ν s.n s.A fun ν'=>Az c k ν' s.n ρ' s.A) ?_ _ _ _ ⟨A,fun i=>w.heap.size+i,0,As⟩ _ ⟨st,kp,⟨rfl,rfl,rfl⟩,hAs⟩ ?_)
 ·rintro a' s w' ⟨ρ',hk',f⟩ ⟨h1,h2,h3,_⟩
  exact Cq (c.cx A0 h0) _ _ _ _ (Nat.le_refl _) (OQ c _ k ρ' s.A s.n s.ν w'.heap hok (Nat.le_refl _) h1 f A0 h0 h2) w hf b a' w' hb hn hk' rfl h3
 ·have:=Gt (P:=c.P) (imp:=c.imp) (nt:=c.n) (all:=ops.toList) (A0:=A0) (h0:=h0) (w0:=w) (rs:=H0 pl) (K:=fun ν n ρ' A=>Az c k ν n ρ' A)
   (Q:=fun e a' w'=>match e with| .normal=>Ch c.P b (k.map It.item) a' w' (fun e w'=>(c.cx A0 h0).R e w'.heap∧Ai w w')| .panic ch=>a'.defers=DefD.ds∧((c.cx A0 h0).R (.panicked ch) w'.heap∧Ai w w')|_=>False)
   (fun ch a' w' h1 h2 h3=>⟨h1,Jp h2,h3⟩) (by simpa using hs) (by simpa using hrs) (fun c' a' w' dst v hq=>⟨by have h1:=hq.1;cases dst<;>exact h1,hq.2⟩) (QA:=fun a' s=> ∃ρ',BO c.n ρ' a'∧Ca s.ν s.n s.A fun ν'=>Az c k ν' s.n ρ' s.A) (fun ρ' a' A' ν' n' As' hk' f=>⟨ρ',hk',f⟩)
   pl (Array.replicate ops.size false) ρ a A As (fun i=>w.heap.size+i) 0 (by simpa using hpl) hk st.inj ⟨w.heap,st⟩ f1
  rw[hl]at this
  simpa using this
end Go.Vm
namespace Go.Vm
def cat:List AH→AH
 | []=>[]
 | [x]=>x
 |x::y::l=>x++cat (y::l)
def JK(x:AH):List AH→Prop
 | []=>True
 |y::l=>Dis x y∧JK x l
def Sep:List AH→Prop
 | []=>True
 |x::l=>JK x l∧Sep l
theorem Lg(x:AH)(l:List AH): ∀b,AA (cat (x::l)) b=AA (x++cat l) b:=by
 intro b
 cases l with
 |nil=>simp[cat]
 |cons y l=>rfl
theorem JK.all{x:AH}: ∀{l:List AH},JK x l→ ∀y∈l,Dis x y
 | [],_,_,h=>by cases h
 |z::l,h,y,hy=>by
  rcases List.mem_cons.1 hy with e|e
  ·rw[e];exact h.1
  ·exact JK.all h.2 y e
theorem JK.of{x:AH}: ∀{l:List AH},(∀y∈l,Dis x y)→JK x l
 | [],_=>trivial
 |z::l,h=>⟨h z (by simp),JK.of fun y hy=>h y (by simp[hy])⟩
theorem Ps: ∀{l:List AH} {b:Nat} {o:Obj},AA (cat l) b=some o→ ∃x∈l,AA x b=some o
 | [],b,o,h=>by cases h
 | x::l,b,o,h=>by
  rw[Lg,BA]at h
  cases hx:AA x b with
  |some u=>rw[hx]at h;exact⟨x,by simp,by rw[hx];exact h⟩
  |none=>
   rw[hx]at h
   obtain⟨y,hy,h2⟩:=Ps h
   exact⟨y,by simp[hy],h2⟩
theorem Qg: ∀{l:List AH} {b:Nat},AA (cat l) b=none→ ∀x∈l,AA x b=none
 | [],_,_,_,h=>by cases h
 | x::l,b,h,y,hy=>by
  rw[Lg,BA]at h
  cases hx:AA x b with
  |some u=>rw[hx]at h;cases h
  |none=>
   rw[hx]at h
   rcases List.mem_cons.1 hy with e|e
   ·rw[e];exact hx
   ·exact Qg h y e
theorem JK.cat{x:AH}{l:List AH}(h:JK x l):Dis x (cat l):=fun b hb=>by
 cases hc:AA (Vm.cat l) b with
 |none=>exact absurd hc hb
 |some o=>
  obtain⟨y,hy,h2⟩:=Ps hc
  exact h.all y hy b (by rw[h2];simp)
theorem Dis.sepT{x:AH}{l:List AH}(h:Dis x (Vm.cat l)):JK x l:=JK.of fun y hy b hb=>by
 refine h b fun hn=>hb ?_
 exact Qg hn y hy
theorem Sep.sub: ∀{l:List AH},Sep l→ ∀x∈l,SubA x (cat l)
 | [],_,_,h=>by cases h
 | y::l,h,x,hx=>fun b o hl=>by
  rw[Lg,BA]
  rcases List.mem_cons.1 hx with e|e
  ·subst e;rw[hl]
  ·have:AA y b=none:=h.1.all x e b (by rw[hl];simp)
   rw[this]
   exact Sep.sub h.2 x e b o hl
def at_(l:List AH)(i:Nat):AH:=match l,i with
 | [],_=>[]
 |x::_,0=>x
 |_::l,i+1=>at_ l i
def pick(l:List AH):List Nat→List AH
 | []=>[]
 |i::is=>at_ l i::pick l is
theorem OJ: ∀{l:List AH} {i:Nat},i<l.length→at_ l i∈l
 | [],_,h=>by simp at h
 |x::l,0,_=>by simp[at_]
 |x::l,i+1,h=>by simp[at_,OJ (l:=l) (i:=i) (by simpa using h)]
theorem Sep.dis2: ∀{l:List AH},Sep l→ ∀{i j:Nat},i≠j→i<l.length→j<l.length→Dis (at_ l i) (at_ l j)
 | [],_,i,_,_,h,_=>by simp at h
 |x::l,h,0,0,hn,_,_=>absurd rfl hn
 |x::l,h,0,j+1,_,_,hj=>h.1.all _ (OJ (by simpa using hj))
 |x::l,h,i+1,0,_,hi,_=>(h.1.all _ (OJ (by simpa using hi))).symm
 |x::l,h,i+1,j+1,hn,hi,hj=>Sep.dis2 h.2 (by omega) (by simpa using hi) (by simpa using hj)
def ax:List Nat→Bool
 | []=>true
 |i::is=> !is.contains i&&ax is
theorem Nx{l:List AH}(h:Sep l){i:Nat}(hi:i<l.length): ∀{is:List Nat},i∉is→(∀j∈is,j<l.length)→JK (at_ l i) (pick l is)
 | [],_,_=>trivial
 |j::is,hn,hl=>⟨h.dis2 (fun e=>hn (by simp[e])) hi (hl j (by simp)),Nx h hi (fun e=>hn (by simp[e])) (fun k hk=>hl k (by simp[hk]))⟩
theorem Sep.pick{l:List AH}(h:Sep l): ∀(is:List Nat),(is.all fun i=>decide (i<l.length))=true→ax is=true→Sep (pick l is)
 | [],_,_=>trivial
 |i::is,hi,hn=>by
  simp only[List.all_cons,Bool.and_eq_true,decide_eq_true_eq]at hi
  simp only[ax,Bool.and_eq_true,Bool.not_eq_true',List.contains_eq_mem,decide_eq_false_iff_not]at hn
  exact⟨Nx h hi.1 hn.1 (by have:=hi.2;simpa using this),Sep.pick h is hi.2 hn.2⟩
theorem Sep.dis{x:AH}{l:List AH}(h:Sep (x::l)):Dis x (cat l):=h.1.cat
theorem Sep.cons{x:AH}{l:List AH}(d:Dis x (cat l))(h:Sep l):Sep (x::l):=⟨d.sepT,h⟩
theorem Sep.fresh{b:Nat}{l:List AH}(h:AA (cat l) b=none)(o:Obj)(s:Sep l):Sep ([(b,o)]::l):=.cons (Dis.one h) s
theorem Sep.one(x:AH):Sep [x]:=⟨trivial,trivial⟩
end Go.Vm
