/-
Lists of plain data: slices that are read, slices of the call's own, appending and writing.
Conditions: none. Generic: it speaks of no program.
-/
import Derived.Test.YtfphceknmgadgaaGreatDoorVmAP
set_option linter.unusedSimpArgs false
set_option linter.unusedVariables false
namespace Go.Vm
def Dis(B A:AH):Prop:= ∀x,AA A x≠none→AA B x=none
theorem Dis.nil(A:AH):Dis [] A:=fun _ _=>rfl
theorem Dis.symm{B A:AH}(h:Dis B A):Dis A B:=fun x hx=>by
 cases ha:AA A x with
 |none=>rfl
 |some o=>exact absurd (h x (by rw[ha];simp)) hx
theorem Dis.right{B A:AH}(h:Dis B A):SubA A (B++A):=SubA.right h
theorem Dis.app{B C A:AH}(h:Dis B A)(k:Dis C A):Dis (B++C) A:=fun x hx=>AJ (h x hx) (k x hx)
theorem Dis.appr{B C A:AH}(h:Dis A B)(k:Dis A C):Dis A (B++C):=(Dis.app h.symm k.symm).symm
def ES{α:Type}(f:α→List Value)(n:Nat)(A:AH)(p:Option Addr)(L:List α):Prop:=L=[]∨ ∃(b off:Nat) (cs:Array Value) (e:TypeId) (fr:Nat×Nat),p=some ⟨b,off,none⟩∧AA A b=some (.cells cs e fr)∧ ∀(i:Nat) (a:α),L[i]? =some a→D0 (some (.cells cs e fr)) (off+i*n) n=some (f a).toArray
theorem ES.mono{α:Type}{f:α→List Value}{n:Nat}{A B:AH}{p:Option Addr}{L:List α}(h:ES f n A p L)(hs:SubA A B):ES f n B p L:=by
 rcases h with h|⟨b,off,cs,e,fr,h1,h2,h3⟩
 ·exact .inl h
 ·exact .inr ⟨b,off,cs,e,fr,h1,hs _ _ h2,h3⟩
theorem ES.nil{α:Type}{f:α→List Value}{n:Nat}{A:AH}{p:Option Addr}:ES f n A p ([]:List α):=.inl rfl
theorem ES.at{α:Type}{f:α→List Value}{n:Nat}{A:AH}{p:Option Addr}{L:List α}(h:ES f n A p L){i:Nat}{a:α}(hi:L[i]? =some a):
  ∃(b off:Nat) (cs:Array Value) (e:TypeId) (fr:Nat×Nat),p=some ⟨b,off,none⟩∧AA A b=some (.cells cs e fr)∧D0 (some (.cells cs e fr)) (off+i*n) n=some (f a).toArray∧ ∀j u,(f a)[j]? =some u→cs[off+i*n+j]? =some u:=by
 rcases h with h|⟨b,off,cs,e,fr,h1,h2,h3⟩
 ·rw[h]at hi;cases hi
 ·have:=h3 i a hi
  exact⟨b,off,cs,e,fr,h1,h2,this,(El this).2⟩
theorem Yk{o:Option Obj}{i n m:Nat}{x y:List Value}(h1:D0 o i n=some x.toArray)(h2:D0 o (i+n) m=some y.toArray):D0 o i (n+m)=some (x++y).toArray:=by
 obtain⟨cs,e,fr,rfl⟩:=Ek h1
 obtain⟨l1,c1⟩:=El h1
 obtain⟨l2,c2⟩:=El h2
 unfold D0 at h1 h2⊢
 simp only at h1 h2⊢
 split at h1
 ·split at h2
  ·rename_i q1 q2
   rw[if_pos (by omega)]
   congr 1
   apply Array.ext'
   have e1:=congrArg Array.toList (Option.some.inj h1)
   have e2:=congrArg Array.toList (Option.some.inj h2)
   simp only[Array.toList_extract,List.extract_eq_take_drop]at e1 e2⊢
   rw[←e1,←e2]
   have a1:i+(n+m) - i=n+m:=by omega
   have a2:i+n - i=n:=by omega
   have a3:i+n+m - (i+n)=m:=by omega
   rw[a1,a2,a3,List.take_add,List.drop_drop]
  ·cases h2
 ·cases h1
theorem ES.all{α:Type}{f:α→List Value}{n:Nat}: ∀{L:List α} {cs:Array Value} {e:TypeId} {fr:Nat×Nat} {off:Nat},L≠[]→(∀(i:Nat) (a:α),L[i]? =some a→D0 (some (.cells cs e fr)) (off+i*n) n=some (f a).toArray)→
  D0 (some (.cells cs e fr)) off (L.length*n)=some (L.flatMap f).toArray
 | [],_,_,_,_,h,_=>absurd rfl h
 | [a],cs,e,fr,off,_,h=>by
  have:=h 0 a rfl
  simpa using this
 | a::b::l,cs,e,fr,off,_,h=>by
  have h0:=h 0 a rfl
  have ih:=ES.all (f:=f) (n:=n) (L:=b::l) (cs:=cs) (e:=e) (fr:=fr) (off:=off+n) (by simp) (fun i x hx=>by
   have:=h (i+1) x (by simpa using hx)
   rw[show off+(i+1)*n=off+n+i*n by rw[Nat.succ_mul];omega]at this
   exact this)
  simp only[Nat.zero_mul,Nat.add_zero]at h0
  have:=Yk h0 ih
  rw[show(a::b::l).length*n=n+(b::l).length*n by rw[List.length_cons (a:=a),Nat.succ_mul];omega]
  exact this
theorem ES.src{α:Type}{f:α→List Value}{n:Nat}{A:AH}{p:Option Addr}{L:List α}(h:ES f n A p L):(L.length=0∧L.flatMap f=[])∨ ∃g off,p=some ⟨g,off,none⟩∧D0 (AA A g) off (L.length*n)=some (L.flatMap f).toArray:=by
 by_cases hn:L=[]
 ·subst hn;exact .inl ⟨rfl,rfl⟩
 ·rcases h with h|⟨b,off,cs,e,fr,h1,h2,h3⟩
  ·exact absurd h hn
  ·exact .inr ⟨b,off,h1,by rw[h2];exact ES.all hn h3⟩
def mR(e:TypeId)(size:Nat)(v:Value)(B:AH)(n:Nat)(xs:List Value):Prop:=GF e size v B n xs∨((∃p,v=.slice p 0 0)∧B=[]∧n=0∧xs=[])
theorem Ey{P:Program}{t ty e:TypeId}{size bytes:Nat}{z:Value}{A B:AH}{K:Value→AH→Prop}{n m c:Nat}{q:Option Addr}{v:Value}{xs news:List Value}
  (hs:O5 P t=some (e,size,bytes)) (hz:DD P e=some z) (hzs:z.cells.size=size) (hsz:0<size)
  (hown:mR e size v B n xs) (hB:SubA B A) (hr:(m=0∧news=[])∨ ∃g off,q=some ⟨g,off,none⟩∧D0 (AA A g) off (m*size)=some news.toArray) (h1: ∀u∈news,u.oneCell'=true)
  (h63:n+m≤maxLen) (hbytes:(n+m)*bytes≤140737488355328)
  (hK: ∀v' B',mR e size v' B' (n+m) (xs++news)→(∀b,AA B' b≠none→AA B b≠none∨AA A b=none)→K v' (B'++A)):
  NJ P (Builtin.append_ #[t,t] ty #[v,.slice q m c]) A K:=by
 by_cases hm:m=0
 ·
  intro h hA w hw
  subst hw
  obtain⟨ht,i,hi,e1,e2⟩:=FP hs
  simp only at e1 e2
  subst e1
  subst e2
  have hn:news=[]:=by
   rcases hr with hr|⟨g,off,_,hr⟩
   ·exact hr.2
   ·obtain⟨cc,ce,cfr,hlook⟩:=Ek hr
    rw[hlook]at hr
    obtain⟨hl,_⟩:=El hr
    exact List.eq_nil_of_length_eq_zero (by rw[hl,hm];simp)
  subst hm
  subst hn
  have key: ∀p k c',k≤c'→(Builtin.append_ #[t,t] ty #[.slice p k c',.slice q 0 c]).run P w=.ok (.slice p k c') w:=by
   intro p k c' hk
   cases p with
   |none=>cases q<;>simp[Builtin.append_,run_underlying ht,sizeOf,typeInfo,hi,Builtin.lenOf,Builtin.firstCells,loadCells,loadCellsFrom,hk]
   |some a=>cases q<;>simp[Builtin.append_,run_underlying ht,sizeOf,typeInfo,hi,Builtin.lenOf,Builtin.firstCells,loadCells,loadCellsFrom,hk,storeCells]
  have same: ∀b,AA B b≠none→AA B b≠none∨AA A b=none:=fun b hb=>.inl hb
  have sat2:DO (B++A) w.heap:=fun b o hl=>by
   rw[By]at hl
   cases hb:AA B b with
   |none=>rw[hb]at hl;exact hA b o hl
   |some u=>rw[hb]at hl;cases hl;exact hA _ _ (hB _ _ hb)
  have keep2:Ca A w.heap (B++A) w.heap:=⟨Nat.le_refl _,fun b _ hb=>⟨rfl,AJ (hB.none hb) hb⟩⟩
  have hv: ∃p c',v=.slice p n c'∧n≤c':=by
   rcases hown with⟨_,⟨rfl,rfl,rfl⟩|⟨g,cap,cur,rfl,rfl,h5,_⟩⟩|⟨⟨p,rfl⟩,_,rfl,_⟩
   ·exact⟨_,_,rfl,by omega⟩
   ·exact⟨_,_,rfl,h5⟩
   ·exact⟨_,_,rfl,by omega⟩
  obtain⟨p,c',rfl,hc'⟩:=hv
  refine⟨_,w,key p n c' hc',⟨rfl,rfl,rfl⟩,B++A,sat2,keep2,hK _ _ ?_ same⟩
  simpa using hown
 ·obtain⟨g,off,rfl,hr2⟩: ∃g off,q=some ⟨g,off,none⟩∧D0 (AA A g) off (m*size)=some news.toArray:=by
   rcases hr with hr|hr
   ·exact absurd hr.1 hm
   ·exact hr
  clear hr
  have hr:=hr2
  clear hr2
  rcases hown with hown|⟨⟨p,rfl⟩,rfl,rfl,rfl⟩
  ·exact MV hs hz hzs hsz hown hB hr h1 h63 hbytes (fun v' B' o d=>hK v' B' (.inl o) d)
  ·cases p with
   |none=>exact MV hs hz hzs hsz (GF.nil e size) (fun _ _ h=>by cases h) hr h1 h63 hbytes (fun v' B' o d=>hK v' B' (.inl o) d)
   | some a=>
    intro h hA w hw
    subst hw
    obtain⟨ht,i,hi,e1,e2⟩:=FP hs
    have hz':i.zero=some z:=by unfold DD at hz;rw[hi]at hz;exact hz
    simp only at e1 e2
    subst e1
    subst e2
    obtain⟨cc,ce,cfr,hlook⟩:=Ek hr
    rw[hlook]at hr
    obtain⟨hl,hcell⟩:=El hr
    have hnews: ∀j u,news[j]? =some u→w.cell? ((⟨g,off,none⟩:Addr).add j)=some u:=by
     intro j u hj
     rw[Fa]
     have:=hA _ _ hlook
     simp only[World.cell?,this]
     simpa using hcell j u hj
    have h63':0+m≤9223372036854775807:=by simp only[maxLen]at h63;omega
    have hr2:=run_append_grow (P:=P) w t ty e i z ht hi hz' a 0 0 [] (by simp) (by simp) ⟨g,off,none⟩ m c news hl hnews (by omega) (by omega) (growslice_fits (by omega) hbytes)
    refine⟨_,_,hr2,⟨rfl,rfl,rfl⟩,_,hA.push,Ca.push, ?_⟩
    refine hK _ [(w.heap.size,_)] (.inl ⟨by simp[hl],.inr ⟨_,_,_,rfl,rfl,grownCap_ge w (0+m) 0 e,grownCap_le_maxLen w (0+m) 0 e h63, ?_, ?_⟩⟩) (fun b hb=> ?_)
    ·have hge:=grownCap_ge w (0+m) 0 e
     simp only[Array.size_append,List.size_toArray,size_zeroCells,hzs,hl,List.length_nil,Nat.zero_add]at hge⊢
     rw[←Nat.add_mul]
     congr 1
     omega
    ·simp only[Array.toList_append,List.append_assoc,Nat.zero_add,List.nil_append]
     rw[←hl]
     exact List.take_left
    ·simp only[AA]at hb
     split at hb
     ·rename_i e;subst e;exact .inr (hA.none_of_size (Nat.le_refl _))
     ·exact absurd rfl hb
def Cq{α:Type}(f:α→List Value)(n:Nat)(e:TypeId)(v:Value)(B:AH)(L:List α):Prop:=mR e n v B L.length (L.flatMap f)
theorem Cq.nil{α:Type}(f:α→List Value)(n:Nat)(e:TypeId):Cq f n e (.slice none 0 0) [] ([]:List α):=.inl (GF.nil e n)
theorem Cq.nilp{α:Type}(f:α→List Value)(n:Nat)(e:TypeId)(p:Option Addr):Cq f n e (.slice p 0 0) [] ([]:List α):=.inr ⟨⟨p,rfl⟩,rfl,rfl,rfl⟩
theorem Cq.at0{α:Type}(f:α→List Value)(n:Nat)(e:TypeId)(g:Nat):Cq f n e (.slice (some ⟨g,0,none⟩) 0 0) [(g,.cells #[] e)] ([]:List α):=.inl (GF.at (xs:=[]) (by simp) (by simp))
theorem Cq.blk{α:Type}{f:α→List Value}{n:Nat}{e:TypeId}{v:Value}{B:AH}{L:List α}(o:Cq f n e v B L)(h:L≠[]):
  ∃g cap cur,v=.slice (some ⟨g,0,none⟩) L.length cap∧B=[(g,.cells cur e)]∧L.length≤cap∧cap≤maxLen∧cur.size=cap*n∧cur.toList.take (L.length*n)=L.flatMap f:=by
 rcases o with⟨h1,⟨_,_,h0⟩|⟨g,cap,cur,h2,h3,h4⟩⟩|⟨_,_,h0,_⟩
 ·exact absurd (List.eq_nil_of_length_eq_zero h0) h
 ·exact⟨g,cap,cur,h2,h3,h4⟩
 ·exact absurd (List.eq_nil_of_length_eq_zero h0) h
theorem Cq.slice{α:Type}{f:α→List Value}{n:Nat}{e:TypeId}{v:Value}{B:AH}{L:List α}(o:Cq f n e v B L): ∃p cap,v=.slice p L.length cap∧L.length≤cap:=by
 rcases o with⟨h1,⟨h2,_,h0⟩|⟨g,cap,cur,h2,h3,h4,_⟩⟩|⟨⟨p,h2⟩,_,h0,_⟩
 ·exact⟨none,0,by rw[h2,h0],by omega⟩
 ·exact⟨_,cap,h2,h4⟩
 ·exact⟨p,0,by rw[h2,h0],by omega⟩
theorem Cq.read{α:Type}{f:α→List Value}{n:Nat}{e:TypeId}{v:Value}{B:AH}{L:List α}(hf: ∀x,(f x).length=n)(o:Cq f n e v B L): ∃p cap,v=.slice p L.length cap∧L.length≤cap∧ES f n B p L:=by
 by_cases h:L=[]
 ·obtain⟨p,cap,h1,h2⟩:=o.slice
  exact⟨p,cap,h1,h2,.inl h⟩
 ·obtain⟨g,cap,cur,h1,rfl,h3,h4,h5,h6⟩:=o.blk h
  refine⟨_,cap,h1,h3,.inr ⟨g,0,cur,e,(0,0),rfl,by simp[AA],fun i a hi=> ?_⟩⟩
  have hlt:=(List.getElem?_eq_some_iff.1 hi).1
  have e1:i*n+n≤L.length*n:=by rw[←Nat.succ_mul];exact Nat.mul_le_mul_right _ hlt
  have e2:L.length*n≤cap*n:=Nat.mul_le_mul_right _ h3
  rw[DX,if_pos (by omega)]
  congr 1
  apply Array.ext'
  have:=XJ f n hf L i a hi
  rw[←this,←h6]
  simp only[Array.toList_extract,List.extract_eq_take_drop,List.drop_take,List.take_take,Nat.zero_add]
  congr 1
  omega
theorem Cq.mem{α:Type}{f:α→List Value}{n:Nat}{e:TypeId}{v:Value}{B:AH}{L:List α}(o:Cq f n e v B L):B=[]∨ ∃g cap cur,v=.slice (some ⟨g,0,none⟩) L.length cap∧B=[(g,.cells cur e)]:=by
 rcases o with⟨h1,⟨h2,h,h0⟩|⟨g,cap,cur,h2,h3,h4,_⟩⟩|⟨⟨p,h2⟩,h,h0,_⟩
 ·exact .inl h
 ·exact .inr ⟨g,cap,cur,h2,h3⟩
 ·exact .inl h
theorem Ka: ∀(vs:List Value) (c:Array Value) (o:Nat),o+vs.length≤c.size→(Cr c o vs).toList=c.toList.take o++vs++c.toList.drop (o+vs.length)
 | [],c,o,h=>by simp[Cr]
 |v::l,c,o,h=>by
  simp only[List.length_cons]at h
  simp only[Cr]
  rw[Ka l _ _ (by simp;omega)]
  have ho:o<c.toList.length:=by simp;omega
  simp only[Array.toList_setIfInBounds]
  rw[List.take_set,List.drop_set_of_lt (by omega),List.take_add_one,List.getElem?_eq_getElem ho]
  have hl:(c.toList.take o).length=o:=by simp;omega
  rw[List.set_append_right _ _ (by omega),hl]
  simp
  congr 1
  omega
theorem Sc{α β:Type}(f:α→List β)(n:Nat)(hf: ∀x,(f x).length=n): ∀(L:List α) (i:Nat) (a:α),i<L.length→(L.set i a).flatMap f=(L.flatMap f).take (i*n)++f a++(L.flatMap f).drop (i*n+n)
 |x::l,0,a,_=>by simp[List.drop_left' (hf x)]
 |x::l,i+1,a,h=>by
  simp only[List.set_cons_succ,List.flatMap_cons]
  rw[Sc f n hf l i a (by simpa using h)]
  have e1:(i+1)*n=(f x).length+i*n:=by rw[hf,Nat.succ_mul];omega
  rw[e1,List.take_length_add_append,Nat.add_assoc,List.drop_length_add_append]
  simp
theorem Cq.set{α:Type}{f:α→List Value}{n:Nat}{e:TypeId}{v:Value}{L:List α}(hf: ∀x,(f x).length=n){g:Nat}{cur:Array Value}(o:Cq f n e v [(g,.cells cur e)] L){i:Nat}(hi:i<L.length)(a:α):
  Cq f n e v [(g,.cells (Cr cur (i*n) (f a)) e)] (L.set i a)∧i*n+n≤cur.size:=by
 have hne:L≠[]:=by intro h;subst h;simp at hi
 obtain⟨g',cap,cur',h1,h2,h3,h4,h5,h6⟩:=o.blk hne
 cases h2
 have e1:i*n+n≤L.length*n:=by rw[←Nat.succ_mul];exact Nat.mul_le_mul_right _ hi
 have e2:L.length*n≤cap*n:=Nat.mul_le_mul_right _ h3
 have hle:i*n+n≤cur.size:=by omega
 refine⟨.inl ⟨by rw[GU f n hf],.inr ⟨g,cap,_,by rw[h1,List.length_set],rfl,by simpa using h3,h4,by rw[R6,h5], ?_⟩⟩,hle⟩
 rw[Ka _ _ _ (by rw[hf];omega),Sc f n hf L i a hi,List.length_set,hf,←h6]
 have hsz:cur.toList.length=cap*n:=by simpa using h5
 have l1:(cur.toList.take (i*n)++f a).length=i*n+n:=by simp[hf];omega
 rw[List.take_append,l1,List.take_of_length_le (by omega),List.take_take,Nat.min_eq_left (by omega),List.drop_take]
theorem Ah.at[dd:DefD]{c:CxA}{body:Code}{k:List It}{ρ:Ba}{A A':AH}(ha:SubA A A')(hl: @Ah dd c body k ρ A ()): @Ah dd c body k ρ A' ():=fun A0 h0 h hA kp=>hl A0 h0 h (hA.sub ha) (kp.sub ha)
theorem BF{A:AH}{x b:Nat}{o:Obj}(hx:AA A x=none)(hb:AA A b=some o):((x=b)=False)∧((b=x)=False):=
 ⟨eq_false (fun e=>by rw[e,hb]at hx;cases hx),eq_false (fun e=>by rw[←e,hb]at hx;cases hx)⟩
theorem SubA.both{X Y Z:AH}(h:SubA X Z)(k:SubA Y Z):SubA (X++Y) Z:=fun b o hl=>by
 rw[By]at hl
 cases hb:AA X b with
 |some u=>rw[hb]at hl;cases hl;exact h _ _ hb
 |none=>rw[hb]at hl;exact k _ _ hl
theorem Dis.sub{A B X:AH}(d:Dis A B)(h:SubA B X):SubA B (A++X):=fun b o hl=>by
 rw[JK (d b (by rw[hl];simp))];exact h b o hl
theorem SubA.fresh{A X:AH}{x:Nat}{o:Obj}(hx:AA X x=Option.none)(h:SubA A X):SubA A ((x,o)::X):=SubA.skip (h.none hx) h
theorem Ll{C' C A X:AH}(hb: ∀b,AA C' b≠none→AA C b≠none∨AA A b=none)(d:Dis C X)(hs:SubA X A):Dis C' X:=fun x hx=>by
 cases hc:AA C' x with
 |none=>rfl
 |some o=>
  rcases hb x (by rw[hc];simp)with h|h
  ·exact absurd (d x hx) h
  ·exact absurd (hs.none h) hx
theorem Dis.less{B B' X:AH}(d:Dis B X)(h: ∀b,AA B b=none→AA B' b=none):Dis B' X:=fun x hx=>h x (d x hx)
theorem Dis.one{X:AH}{x:Nat}{o:Obj}(h:AA X x=none):Dis [(x,o)] X:=fun b hb=>by
 simp only[AA]
 rw[if_neg (fun e=>by subst e;exact hb h)]
theorem AM.go{P:Program}{g:FuncId}{args:Array Value}{A A0:AH}{K0 K:Value→AH→Prop}(hc:AM P g args A0 K0)(hs:SubA A0 A)(h0: ∀v D,K0 v D→SubA A0 D)
  (hk: ∀v D A',K0 v D→SubA D A'→SubA A A'→(∀x,AA D x≠none→AA A0 x=none→AA A x=none)→K v A'):AM P g args A K:=by
 refine AM.frame hc hs fun v D hv=>⟨fun x hx=> ?_,fun hx=>hk v D _ hv (SubA.left _ _) (fun b o hl=> ?_) hx⟩
 ·cases hl:AA A0 x with
  |none=>exact absurd hl hx
  |some o=>rw[h0 v D hv x o hl];simp
 ·rw[By]
  cases hd:AA D b with
  |none=>exact hl
  | some u=>
   cases ha:AA A0 b with
   |none=>have:=hx b (by rw[hd];simp) ha;rw[this]at hl;cases hl
   |some w=>
    have e1:=h0 v D hv b w ha
    have e2:=hs b w ha
    rw[hd]at e1;rw[hl]at e2
    rw[e1,e2]
theorem DO.both{A B:AH}{h:AY}(hA:DO A h)(hB:DO B h):DO (A++B) h:=fun b o hl=>by
 rw[By]at hl
 cases ha:AA A b with
 |none=>rw[ha]at hl;exact hB b o hl
 |some u=>rw[ha]at hl;cases hl;exact hA b _ ha
end Go.Vm
