/-
Arguments that hold expressions and fee rules; their sizes; the reference writes and judges expressions.
Conditions: none.
-/
import Derived.Test.YtfphceknmgadgaaGreatDoorVmRc
import Derived.Test.YtfphceknmgadgaaGreatDoorQn
import Derived.Test.YtfphceknmgadgaaGreatDoorQp
import Derived.Test.YtfphceknmgadgaaGreatDoorQo
set_option linter.unusedSimpArgs false
set_option linter.unusedVariables false
namespace Go.Proofs.YtfphceknmgadgaaGreatDoor
open Go.Vm
set_option maxHeartbeats 2000000
set_option maxRecDepth 20000
theorem Cz:type_of% (An @BR (An @Be (An @Bd (An @BF (An @BQ (An @Bf (An @CG (An @BX (An @CX (An @Cn (An @CZ (An @Cp (An @DB (An @Cq (An @CW (An @CD (An @CC (An @Co (An @Bw (An @CE (An @CY (An @CF (An @CH (An @AW (An @AP (An @Av (An @Aw (An @Am (An @BN (An @Ar (An @A7 (An @A8 (An @BA (An @BB (An @BD (An @BH (An @BK (An @Cy (An @AU (An @AR (An @Ab (An @Ac (An @Aq (An @Bh (An @CS (An @Eu (An @CR @CU))))))))))))))))))))))))))))))))))))))))))))))):=⟨@BR,@Be,@Bd,@BF,@BQ,@Bf,@CG,@BX,@CX,@Cn,@CZ,@Cp,@DB,@Cq,@CW,@CD,@CC,@Co,@Bw,@CE,@CY,@CF,@CH,@AW,@AP,@Av,@Aw,@Am,@BN,@Ar,@A7,@A8,@BA,@BB,@BD,@BH,@BK,@Cy,@AU,@AR,@Ab,@Ac,@Aq,@Bh,@CS,@Eu,@CR,@CU⟩
inductive NbX:Xs→Prop
 |mk {op n:Int} {nm tx:ByteArray} {args:List Xs}: -9223372036854775808≤n→n≤9223372036854775807→nm.size≤140737488351232→tx.size≤140737488351232→(∀x∈args,NbX x)→NbX (.mk op nm tx n args)
theorem wf64{n:Int}(h:(Lit.int .i64 n).wf=true): -9223372036854775808≤n∧n≤9223372036854775807:=by
 simp only[Lit.wf,Bool.and_eq_true,decide_eq_true_eq]at h
 exact h
theorem ZY{α:Type}{l:List α}(h:l.length=5): ∃a b c d e,l=[a,b,c,d,e]:=by
 match l,h with
 | [a,b,c,d,e],_=>exact⟨a,b,c,d,e,rfl⟩
theorem kh:Tryz.prog.cellsOf 3=1:=by kernel_rfl
theorem l9:Tryz.prog.cellsOf 2=1:=by kernel_rfl
theorem eU:Tryz.prog.cellsOf 9=1:=by kernel_rfl
theorem ce_sl:Tryz.prog.cellsOf 34=1:=by kernel_rfl
theorem eK:Tryz.prog.cellsOf 36=5:=by kernel_rfl
theorem by_ex:Tryz.prog.bytesOf 36=72:=by kernel_rfl
section
variable {H:Type} {enc:TypeId×Value→H} {w:World} {base:Nat} {sp:Nat→Bool} {held:Bool}
theorem exr_of: ∀(fuel:Nat) (cs:List Value) (x:DataW H×List MemPlace),DataW.trod enc Tryz.prog w base sp held fuel 36 cs=some x→(∀q∈x.1.weights Tryz.prog 36,q≤140737488351232)→ ∃t r,cs=C8 r∧ExR (Lr w.heap) t r∧SzX t∧NbX t:=by
 intro fuel
 induction fuel using Nat.strongRecOn with
 | ind fuel ih=>
  intro cs x h hw
  obtain⟨xs,m,rfl,hx,h1,h2,h3⟩:=DataW.trod_struct Tryz.underlying36 h
  subst hx
  simp only[DataW.weights,Tryz.underlying36]at hw
  have hwe:=fun i t d (h1:_=some t) (h2:_=some d) n hn=>hw n (Mw _ _ i t d h1 h2 n hn)
  rw[eK]at h1
  obtain⟨c0,c1,c2,c3,c4,rfl⟩:=ZY h1
  obtain⟨y0,y1,y2,y3,y4,rfl⟩:=ZY (l:=xs) h2
  have g0:DataW.trod enc Tryz.prog w base sp held m 3 (([c0,c1,c2,c3,c4].drop 0).take (Tryz.prog.cellsOf 3))=some y0:=h3 0 _ rfl
  have g1:DataW.trod enc Tryz.prog w base sp held m 9 (([c0,c1,c2,c3,c4].drop 1).take (Tryz.prog.cellsOf 9))=some y1:=h3 1 _ rfl
  have g2:DataW.trod enc Tryz.prog w base sp held m 9 (([c0,c1,c2,c3,c4].drop 2).take (Tryz.prog.cellsOf 9))=some y2:=h3 2 _ rfl
  have g3:DataW.trod enc Tryz.prog w base sp held m 2 (([c0,c1,c2,c3,c4].drop 3).take (Tryz.prog.cellsOf 2))=some y3:=h3 3 _ rfl
  have g4:DataW.trod enc Tryz.prog w base sp held m 34 (([c0,c1,c2,c3,c4].drop 4).take (Tryz.prog.cellsOf 34))=some y4:=h3 4 _ rfl
  have w1:=hwe 1 9 y1.1 rfl rfl
  have w2:=hwe 2 9 y2.1 rfl rfl
  have w4:=hwe 4 34 y4.1 rfl rfl
  simp only[kh,l9,eU,ce_sl,List.drop_zero,List.drop_succ_cons,List.take_succ_cons,List.take_zero]at g0 g1 g2 g3 g4
  obtain⟨op,e0,_,_⟩:=DataW.trod_int Tryz.underlying3 g0
  obtain⟨nm,e1,x1,_⟩:=DataW.trod_string Tryz.underlying9 g1
  obtain⟨tx,e2,x2,_⟩:=DataW.trod_string Tryz.underlying9 g2
  obtain⟨n,e3,_,wn⟩:=DataW.trod_int Tryz.underlying2 g3
  obtain⟨b1,b2⟩:=wf64 wn
  simp only[List.cons.injEq,and_true]at e0 e1 e2 e3
  subst e0 e1 e2 e3 x1 x2
  have z1:nm.size≤140737488351232:=w1 nm.size (by rw[DataW.weights,List.mem_singleton,Array.length_toList];rfl)
  have z2:tx.size≤140737488351232:=w2 tx.size (by rw[DataW.weights,List.mem_singleton,Array.length_toList];rfl)
  rcases DataW.trod_slice Tryz.underlying34 g4 with⟨e4,_⟩|⟨a,len,cap,elems,rest,k,rfl,e4,x4,_,q1,q2,q3,q4,_⟩
  ·simp only[List.cons.injEq,and_true]at e4
   subst e4
   exact⟨.mk op nm tx n [],⟨op,nm,tx,n,none,0,0⟩,rfl,ExR.leaf _ _ _ _ _ _ _,.mk (by omega) (by omega) (fun x hx=>by cases hx),.mk b1 b2 z1 z2 (fun x hx=>by cases hx)⟩
  ·simp only[List.cons.injEq,and_true]at e4
   subst e4 x4
   simp only[DataW.weights,Tryz.underlying34,by_ex]at w4
   have hlen0:=w4 _ (List.mem_cons_self ..)
   simp only[List.length_map]at hlen0
   obtain⟨L,l1,l2⟩:=Ss (fun i (p:Xs×Xr)=>(∀j,j<5→Fe w.heap ((a.add (i*5)).add j)=(C8 p.2)[j]?)∧ExR (Lr w.heap) p.1 p.2∧SzX p.1∧NbX p.1) len (fun i hi=>by
    have h5:=q4 i hi
    rw[eK,List.getElem?_eq_getElem (by omega),Option.bind_eq_some_iff]at h5
    obtain⟨es,h6,h7⟩:=h5
    obtain⟨_,h8,h9⟩:=World.cells?_some h6
    obtain⟨t,r,rfl,hr,hz⟩:=ih k (by omega) es _ h7 fun q hq=>w4 q (List.mem_cons_of_mem _ (List.mem_append_left _ (Wq _ i _ _ (by simp[List.getElem?_eq_getElem (show i<elems.length by omega)]) q hq)))
    exact⟨(t,r),fun j hj=>by rw[←h9 j hj];rfl,hr,hz⟩)
   subst l1
   have hlen:(L.map Prod.fst).length=L.length:=by simp
   refine⟨.mk op nm tx n (L.map Prod.fst),⟨op,nm,tx,n,some a,L.length,cap⟩,rfl, ?_,.mk (by omega) (by omega) fun x hx=> ?_,.mk b1 b2 z1 z2 fun x hx=> ?_⟩
   ·have:=ExR.mk (A:=Lr w.heap) (op:=op) (n:=n) (nm:=nm) (tx:=tx) (args:=L.map Prod.fst) (p:=some a) (cap:=cap) (rs:=L.map Prod.snd) (by rw[hlen];omega) (by rw[hlen];exact q1) (by simp) ?_ ?_
    ·rw[hlen]at this;exact this
    ·refine aB C8 (by decide) Zx fun i x hx=> ?_
     rw[List.getElem?_map,Option.map_eq_some_iff]at hx
     obtain⟨p,hp,rfl⟩:=hx
     exact(l2 i p hp).1
    ·intro k' x r hx hr
     rw[List.getElem?_map,Option.map_eq_some_iff]at hx hr
     obtain⟨p,hp,rfl⟩:=hx
     obtain⟨p',hp',rfl⟩:=hr
     rw[hp]at hp';cases hp'
     exact(l2 k' p hp).2.1
   ·obtain⟨p,hp,rfl⟩:=List.mem_map.1 hx
    obtain⟨i,hi⟩:=List.getElem?_of_mem hp
    exact(l2 i p hi).2.2.1
   ·obtain⟨p,hp,rfl⟩:=List.mem_map.1 hx
    obtain⟨i,hi⟩:=List.getElem?_of_mem hp
    exact(l2 i p hi).2.2.2
end
end Go.Proofs.YtfphceknmgadgaaGreatDoor
namespace Go.Proofs.YtfphceknmgadgaaGreatDoor
open Go.Vm
set_option maxHeartbeats 2000000
set_option maxRecDepth 20000
def mR(u:Fu):Prop:=NbX u.w
theorem ten_of{α:Type}{l:List α}(h:l.length=10): ∃a b c d e f g i j k,l=[a,b,c,d,e,f,g,i,j,k]:=by
 match l,h with
 | [a,b,c,d,e,f,g,i,j,k],_=>exact⟨a,b,c,d,e,f,g,i,j,k,rfl⟩
theorem ui{α:Type}{l:List α}(h:l.length=6): ∃a b c d e f,l=[a,b,c,d,e,f]:=by
 match l,h with
 | [a,b,c,d,e,f],_=>exact⟨a,b,c,d,e,f,rfl⟩
theorem uC:Tryz.prog.cellsOf 38=10:=by kernel_rfl
theorem by_fu:Tryz.prog.bytesOf 38=120:=by kernel_rfl
section
variable {H:Type} {enc:TypeId×Value→H} {w:World} {base:Nat} {sp:Nat→Bool} {held:Bool}
theorem fur_of{fuel:Nat}{cs:List Value}{x:DataW H×List MemPlace}(h:DataW.trod enc Tryz.prog w base sp held fuel 38 cs=some x)(hw: ∀q∈x.1.weights Tryz.prog 38,q≤140737488351232): ∃u r,cs=G2 r∧mQ (Lr w.heap) u r∧SzX u.w∧mR u:=by
 obtain⟨xs,m,rfl,hx,h1,h2,h3⟩:=DataW.trod_struct Tryz.underlying38 h
 subst hx
 simp only[DataW.weights,Tryz.underlying38]at hw
 have hwe:=fun i t d (h1:_=some t) (h2:_=some d) n hn=>hw n (Mw _ _ i t d h1 h2 n hn)
 rw[uC]at h1
 obtain⟨c0,c1,c2,c3,c4,c5,c6,c7,c8,c9,rfl⟩:=ten_of h1
 obtain⟨y0,y1,y2,y3,y4,y5,rfl⟩:=ui (l:=xs) h2
 have g0:DataW.trod enc Tryz.prog w base sp held m 9 (([c0,c1,c2,c3,c4,c5,c6,c7,c8,c9].drop 0).take (Tryz.prog.cellsOf 9))=some y0:=h3 0 _ rfl
 have g1:DataW.trod enc Tryz.prog w base sp held m 36 (([c0,c1,c2,c3,c4,c5,c6,c7,c8,c9].drop 1).take (Tryz.prog.cellsOf 36))=some y1:=h3 1 _ rfl
 have g2:DataW.trod enc Tryz.prog w base sp held m 3 (([c0,c1,c2,c3,c4,c5,c6,c7,c8,c9].drop 6).take (Tryz.prog.cellsOf 3))=some y2:=h3 2 _ rfl
 have g3:DataW.trod enc Tryz.prog w base sp held m 2 (([c0,c1,c2,c3,c4,c5,c6,c7,c8,c9].drop 7).take (Tryz.prog.cellsOf 2))=some y3:=h3 3 _ rfl
 have g4:DataW.trod enc Tryz.prog w base sp held m 2 (([c0,c1,c2,c3,c4,c5,c6,c7,c8,c9].drop 8).take (Tryz.prog.cellsOf 2))=some y4:=h3 4 _ rfl
 have g5:DataW.trod enc Tryz.prog w base sp held m 2 (([c0,c1,c2,c3,c4,c5,c6,c7,c8,c9].drop 9).take (Tryz.prog.cellsOf 2))=some y5:=h3 5 _ rfl
 have w1:=hwe 1 36 y1.1 rfl rfl
 simp only[kh,l9,eK,eU,List.drop_zero,List.drop_succ_cons,List.take_succ_cons,List.take_zero]at g0 g1 g2 g3 g4 g5
 obtain⟨nm,e0,_,z1⟩:=DataW.trod_string Tryz.underlying9 g0
 obtain⟨t,r,e1,hr,hz,hb⟩:=exr_of _ _ _ g1 w1
 obtain⟨bps,e2,_,_⟩:=DataW.trod_int Tryz.underlying3 g2
 obtain⟨fx,e3,_,_⟩:=DataW.trod_int Tryz.underlying2 g3
 obtain⟨mn,e4,_,_⟩:=DataW.trod_int Tryz.underlying2 g4
 obtain⟨mx,e5,_,_⟩:=DataW.trod_int Tryz.underlying2 g5
 simp only[C8,List.cons.injEq,and_true]at e0 e1 e2 e3 e4 e5
 obtain⟨rfl,rfl,rfl,rfl,rfl⟩:=e1
 subst e0 e2 e3 e4 e5
 exact⟨⟨nm,t,bps,fx,mn,mx⟩,⟨nm,r,bps,fx,mn,mx⟩,rfl,⟨rfl,hr,rfl,rfl,rfl,rfl⟩,hz,hb⟩
def uh(h:AX)(a:Option Addr)(len cap:Nat):Prop:= ∃us:List Fu,us.length=len∧len≤140737488355328∧len≤cap∧Kb (Lr h) us a∧ ∀u∈us,SzX u.w∧mR u
theorem Ut{a:Option Addr}{len cap:Nat}{d:DataW H}{ps:List MemPlace}{ts:List TypeId}{ds:List (DataW H)}{i:Nat}(h:DataW.Trod enc Tryz.prog w base sp held 23 (.slice a len cap) d ps)
  (hZ:(DataW.weightsEach Tryz.prog ts ds).all (· ≤140737488351232)=true) (ht:ts[i]? =some 23) (hd:ds[i]? =some d):uh w.heap a len cap:=by
 obtain⟨fuel,hf⟩:=h
 have hw: ∀q∈d.weights Tryz.prog 23,q≤140737488351232:=fun n hn=>by
  have:=List.all_eq_true.1 hZ n (Mw ts ds i _ d ht hd n hn)
  simpa using this
 have hc:(Value.slice a len cap).cells.toList=[.slice a len cap]:=rfl
 rw[hc]at hf
 rcases DataW.trod_slice Tryz.underlying23 hf with⟨e4,_⟩|⟨a',len',cap',elems,rest,k,rfl,e4,x4,_,q1,q2,q3,q4,_⟩
 ·simp only[List.cons.injEq,and_true,Value.slice.injEq]at e4
  obtain⟨rfl,rfl,rfl⟩:=e4
  exact⟨[],rfl,by decide,Nat.le_refl _,⟨[],rfl,.inl rfl,fun k u r h=>by simp at h⟩,fun u hu=>by cases hu⟩
 ·simp only[List.cons.injEq,and_true,Value.slice.injEq]at e4
  obtain⟨rfl,rfl,rfl⟩:=e4
  simp only[Prod.mk.injEq]at x4
  rw[x4.1]at hw
  simp only[DataW.weights,Tryz.underlying23,by_fu]at hw
  have hlen0:=hw _ (List.mem_cons_self ..)
  simp only[List.length_map]at hlen0
  obtain⟨L,l1,l2⟩:=Ss (fun i (p:Fu×Fuv)=>(∀j,j<10→Fe w.heap ((a'.add (i*10)).add j)=(G2 p.2)[j]?)∧mQ (Lr w.heap) p.1 p.2∧SzX p.1.w∧mR p.1) len (fun i hi=>by
   have h5:=q4 i hi
   rw[uC,List.getElem?_eq_getElem (by omega),Option.bind_eq_some_iff]at h5
   obtain⟨es,h6,h7⟩:=h5
   obtain⟨_,h8,h9⟩:=World.cells?_some h6
   obtain⟨t,r,rfl,hr,hz⟩:=fur_of h7 fun q hq=>hw q (List.mem_cons_of_mem _ (List.mem_append_left _ (Wq _ i _ _ (by simp[List.getElem?_eq_getElem (show i<elems.length by omega)]) q hq)))
   exact⟨(t,r),fun j hj=>by rw[←h9 j hj];rfl,hr,hz⟩)
  subst l1
  refine⟨L.map Prod.fst,by simp,by omega,q1,⟨L.map Prod.snd,by simp, ?_, ?_⟩,fun u hu=> ?_⟩
  ·refine aB G2 (by decide) Sp fun i x hx=> ?_
   rw[List.getElem?_map,Option.map_eq_some_iff]at hx
   obtain⟨p,hp,rfl⟩:=hx
   exact(l2 i p hp).1
  ·intro k' x r hx hr
   rw[List.getElem?_map,Option.map_eq_some_iff]at hx hr
   obtain⟨p,hp,rfl⟩:=hx
   obtain⟨p',hp',rfl⟩:=hr
   rw[hp]at hp';cases hp'
   exact(l2 k' p hp).2.1
  ·obtain⟨p,hp,rfl⟩:=List.mem_map.1 hu
   obtain⟨i,hi⟩:=List.getElem?_of_mem hp
   exact(l2 i p hi).2.2
end
end Go.Proofs.YtfphceknmgadgaaGreatDoor
namespace Go.Proofs.YtfphceknmgadgaaGreatDoor
open Go.Vm
set_option maxHeartbeats 4000000
set_option maxRecDepth 20000
mutual
def Lw:Xs→Int→Int
 | .mk op nm tx n args,d=>if 30<d then 1000 else if 200<args.length then 1000 else if 300<tx.size+nm.size then 1000 else if 200<TO args (d+1) 1 then 1000 else TO args (d+1) 1
def TO:List Xs→Int→Int→Int
 | [],d,k=>k
 |x::l,d,k=>if k<1000 then TO l d (k+Lw x d)else k
end
theorem kn(x:Xs): ∀d:Int,1≤Lw x d∧Lw x d≤1000:=by
 induction x using Xs.ind with
 | h op nm tx n args ih=>
  intro d
  rw[Lw]
  have: ∀(l:List Xs) (k:Int),(∀a∈l,∀d:Int,1≤Lw a d∧Lw a d≤1000)→1≤k→1≤TO l (d+1) k:=by
   intro l
   induction l with
   |nil=>intro k _ h1;rw[TO];exact h1
   | cons a l ihl=>
    intro k hall h1
    rw[TO]
    split
    ·obtain⟨a1,a2⟩:=hall a (by simp) (d+1)
     exact ihl _ (fun b hb=>hall b (by simp[hb])) (by omega)
    ·exact h1
  have:=this args 1 ih (by omega)
  repeat' split
  all_goals omega
theorem rN(d:Int): ∀(l:List Xs) (k:Int),k≤TO l d k
 | [],k=>by rw[TO];omega
 | x::l,k=>by
  rw[TO]
  split
  ·have:=rN d l (k+Lw x d)
   have:=(kn x d).1
   omega
  ·omega
theorem mW(l:List Xs)(i:Nat)(k:Int):(Wd (tL l) i k).length≤EY (l.drop i |>.take 1)+2:=by
 unfold Wd
 rw[Ea,List.getD_eq_getElem?_getD,List.getElem?_map]
 cases h:l[i]? with
 |none=> 
  have:(WS k (0,[])).length≤2:=HP k (0,[])
  simp only[Option.map_none,Option.getD_none]
  omega
 | some x=>
  have h1:=HP k (opO x,tX x)
  have hi:=(List.getElem?_eq_some_iff.1 h).1
  have e:(l.drop i).take 1=[x]:=by
   rw[List.drop_eq_getElem_cons hi]
   have:=(List.getElem?_eq_some_iff.1 h).2
   simp[this]
  rw[e]
  simp only[Option.map_some,Option.getD_some,EY]
  simp only at h1
  omega
theorem zinA(l:List Xs):(Mn (tL l)).length≤EY l:=by
 cases l with
 |nil=>simp[tL,Mn]
 |cons b l=>
  have h2:=HP 4 (opO b,tX b)
  have h3:=SN l
  rw[tL,Mn,List.length_append,EY]
  simp only at h2
  omega
theorem bd(l:List Xs):EY ((l.drop 0).take 1)+EY ((l.drop 1).take 1)≤EY l:=by
 match l with
 | []=>simp[EY]
 | [a]=>simp[EY]
 |a::b::l=>simp[EY]
theorem nV{op n:Int}{nm tx:ByteArray}{args:List Xs}(h1:tx.size+nm.size≤300)(h3: -9223372036854775808≤n)(h4:n≤9223372036854775807):(tX (.mk op nm tx n args)).length≤EY args+360:=by
 have e1:=D1 h3 h4
 have e2:nm.data.toList.length=nm.size:=by rw[←ByteArray.toList_eq,Ah]
 have e3:tx.data.toList.length=tx.size:=by rw[←ByteArray.toList_eq,Ah]
 have e4:=mW args 0 6
 have e5:=mW args 0 4
 have e6:=mW args 0 (L4 op)
 have e7:=mW args 1 (Ev op+1)
 have e8:=bd args
 have e9:=fJ op
 have e10:(Mn ((tL args).drop 1)).length≤EY (args.drop 1):=by
  have:(tL args).drop 1=tL (args.drop 1):=by rw[Ea,Ea,List.map_drop]
  rw[this];exact zinA _
 have e11:=O2 (args.take 1) (args.drop 1)
 rw[List.take_append_drop]at e11
 rw[List.drop_zero]at e4 e5 e6 e8
 rw[tX,CP]
 split
 ·omega
 split
 ·simp only[List.length_cons,List.length_append,List.length_nil];omega
 split
 ·omega
 split
 ·simp only[List.length_cons,List.length_append,List.length_nil];omega
 split
 ·simp only[List.length_cons,List.length_append,List.length_nil];omega
 split
 ·simp only[List.length_cons,List.length_append,List.length_nil];omega
 split
 ·simp only[List.length_cons,List.length_append,List.length_nil];omega
 split
 ·simp only[List.length_cons,List.length_append,List.length_nil];omega
 ·simp only[List.length_cons,List.length_append,List.length_nil];omega
theorem z_len(x:Xs):NbX x→ ∀d:Int,Lw x d≤200→((tX x).length:Int)+4≤370*Lw x d:=by
 induction x using Xs.ind with
 | h op nm tx n args ih=>
  rintro(⟨n1,n2,_,_,n3⟩) d hle
  rw[Lw]at hle⊢
  split at hle
  ·omega
  rename_i c1
  split at hle
  ·omega
  rename_i c2
  split at hle
  ·omega
  rename_i c3
  split at hle
  ·omega
  rename_i c4
  rw[if_neg c1,if_neg c2,if_neg c3,if_neg c4]
  have hany:=nV (op:=op) (args:=args) (show tx.size+nm.size≤300 by omega) n1 n2
  have: ∀(l:List Xs) (k:Int),(∀a∈l,NbX a∧ ∀d:Int,Lw a d≤200→((tX a).length:Int)+4≤370*Lw a d)→1≤k→TO l (d+1) k≤200→(EY l:Int)≤370*(TO l (d+1) k - k):=by
   intro l
   induction l with
   |nil=>intro k _ _ _;simp[EY,TO]
   | cons a l ihl=>
    intro k hall h1 h2
    rw[TO]at h2⊢
    split at h2
    ·rename_i hk
     rw[if_pos hk]
     have g1:=rN (d+1) l (k+Lw a (d+1))
     have g0:=(kn a (d+1)).1
     have g2:=(hall a (by simp)).2 (d+1) (by omega)
     have g3:=ihl _ (fun b hb=>hall b (by simp[hb])) (by omega) h2
     simp only[EY]
     omega
    ·omega
  have:=this args 1 (fun a ha=>⟨n3 a ha,ih a ha (n3 a ha)⟩) (by omega) (by omega)
  omega
def Mo:List Fu→Bool
 | []=>true
 |u::l=>decide (u.nm.size≤100)&&(decide (Lw u.w 0≤200)&&Mo l)
def Wi(us:List Fu):Bool:=Mo (us.take 80)&&decide (us.length≤80)
theorem V4: ∀l:List Fu,Mo l=true→ ∀u∈l,u.nm.size≤100∧Lw u.w 0≤200
 | [],_,u,hu=>by cases hu
 |v::l,h,u,hu=>by
  simp only[Mo,Bool.and_eq_true,decide_eq_true_eq]at h
  rcases List.mem_cons.1 hu with e|e
  ·rw[e];exact⟨h.1,h.2.1⟩
  ·exact V4 l h.2.2 u e
theorem YT{us:List Fu}(h:Wi us=true)(hn: ∀u∈us,mR u):us.length≤80∧ ∀u∈us,(tX u.w).length≤1000000∧u.nm.size≤1000:=by
 unfold Wi at h
 simp only[Bool.and_eq_true,decide_eq_true_eq]at h
 obtain⟨h1,h2⟩:=h
 rw[List.take_of_length_le h2]at h1
 refine⟨h2,fun u hu=> ?_⟩
 obtain⟨a,b⟩:=V4 us h1 u hu
 have:=z_len u.w (hn u hu) 0 b
 exact⟨by omega,by omega⟩
theorem siS_h(A:AH)(op n:Int)(nm tx:ByteArray)(args:List Xs)(p:Option Addr)(cap:Nat)(rs:List Xr)(hl:args.length≤140737488355328)(hrs:rs.length=args.length)(hS:E8 C8 5 A p rs)(hn:nm.size≤140737488351232)(ht:tx.size≤140737488351232)(d:Int)(hd0:0≤d)(hd1:d≤31)(ih: ∀(k:Nat) (x:Xs) (r:Xr),args[k]? =some x→rs[k]? =some r→ ∀d':Int,0≤d'→d'≤31→ ∀B,SubA A B→Bi Tryz.prog 31 #[EG r,.int .i64 d'] B=some (.int .i64 (Lw x d'))):Ak Tryz.prog 31 #[.agg #[.int .i64 op,.string nm,.string tx,.int .i64 n,.slice p args.length cap],.int .i64 d] A (fun u_ A_=>u_=.int .i64 (Lw (.mk op nm tx n args) d)∧SubA A A_):=by
 refine AQ ⟨Tryz.prog,31,Tryz.f31,49,[0,1,2,4,5,6],⟨[],none⟩,[],_⟩ rfl (args:=[_,_]) Tryz.func31 rfl (by kernel_rfl) Tryz.ntmps31 (by simp) (by kernel_rfl) ?_
 intro ν fr;have nuE:=fr.nu
 have f0:=fr.2 0
 have wd:IntKind.i64.wrap (d+1)=d+1:=Az (by omega) (by omega)
 have ws:IntKind.i64.wrap ((tx.size:Int)+(nm.size:Int))=(tx.size:Int)+(nm.size:Int):=Az (by omega) (by omega)
 rw[Lw]
 by_cases h1:30<d
 ·rw[if_pos h1]
  simp (maxDischargeDepth:=16) only[Af,↓Ae,simprocAttr,forall_const,nuE,fr.2,Cz,↓AK,↓AJ,eq_true h1]
 rw[if_neg h1]
 by_cases h2:200<args.length
 ·rw[if_pos h2]
  have k2:(200<(args.length:Int))=True:=eq_true (by omega)
  simp (maxDischargeDepth:=16) only[Af,↓Ae,simprocAttr,forall_const,nuE,fr.2,Cz,↓AK,↓AJ,eq_false h1,k2]
 rw[if_neg h2]
 have k2:(200<(args.length:Int))=False:=eq_false (by omega)
 by_cases h3:300<tx.size+nm.size
 ·rw[if_pos h3]
  have k3:(300<(tx.size:Int)+(nm.size:Int))=True:=eq_true (by omega)
  simp (maxDischargeDepth:=16) only[Af,↓Ae,simprocAttr,forall_const,nuE,fr.2,Cz,↓AK,↓AJ,eq_false h1,k2,ws,k3]
 rw[if_neg h3]
 have k3:(300<(tx.size:Int)+(nm.size:Int))=False:=eq_false (by omega)
 simp (maxDischargeDepth:=16) only[Af,↓Ae,simprocAttr,forall_const,nuE,fr.2,Cz,↓AK,↓AJ,eq_false h1,k2,ws,k3]
 have dst_:True:=(by simp[nuE]);generalize ν 0=n1 at dst_  f0⊢
 clear nuE fr
 obtain⟨e,l,k,he,hk0,hd,hle,hk,hk2,hx⟩: ∃(e:Nat) (l:List Xs) (k:Int),e=0∧k=1∧l=args.drop e∧e≤args.length∧1≤k∧k≤2000∧TO args (d+1) 1=TO l (d+1) k:=⟨0,_,1,rfl,rfl,rfl,by omega,by omega,by omega,rfl⟩
 rw[hx]
 rw[show(6,some (Value.int .i64 0))=(6,some (Value.int .i64 (e:Int))) by rw[he];rfl,show(5,some (Value.int .i64 1))=(5,some (Value.int .i64 k)) by rw[hk0]]
 clear he hx hk0
 induction l generalizing e k with
 | nil=>
  obtain⟨hn1,hn2⟩:=drop_nil hd hle
  have lt:((e:Int)<(args.length:Int))=False:=eq_false (by omega)
  refine At.intro (by kernel_rfl) ?_
  intro ν fr;have nuE:=And.intro (fr.mem (b:=n1) (by simp)) (fr.nu)
  rw[TO]
  by_cases hk200:200<k
  ·rw[if_pos hk200]
   simp (maxDischargeDepth:=16) only[Af,↓Ae,simprocAttr,forall_const,nuE,fr.2,Cz,↓AK,↓AJ,lt,eq_true hk200]
   exact SubA.fresh f0 (SubA.refl _)
  ·rw[if_neg hk200]
   simp (maxDischargeDepth:=16) only[Af,↓Ae,simprocAttr,forall_const,nuE,fr.2,Cz,↓AK,↓AJ,lt,eq_false hk200]
   exact SubA.fresh f0 (SubA.refl _)
 | cons x l ihl=>
  obtain⟨ha,hlt,hd',htk⟩:=DH hd
  have lt:((e:Int)<(args.length:Int))=True:=eq_true (by omega)
  have li:((e:Int)<0)=False:=eq_false (by omega)
  have we:IntKind.i64.wrap ((e:Int)+1)=((e+1:Nat):Int):=by rw[Az (by omega) (by omega)];omega
  rw[TO]
  by_cases hkm:k<1000
  rotate_left
  ·rw[if_neg hkm,if_pos (by omega)]
   have hk200:(200<k)=True:=eq_true (by omega)
   refine At.intro (by kernel_rfl) ?_
   intro ν fr;have nuE:=And.intro (fr.mem (b:=n1) (by simp)) (fr.nu)
   simp (maxDischargeDepth:=16) only[Af,↓Ae,simprocAttr,forall_const,nuE,fr.2,Cz,↓AK,↓AJ,lt,eq_false hkm,hk200]
   exact SubA.fresh f0 (SubA.refl _)
  rw[if_pos hkm]
  obtain⟨s,hs⟩: ∃s,rs[e]? =some s:=⟨_,List.getElem?_eq_getElem (by omega)⟩
  obtain⟨bk,off,cs,ty,fr0,hp0,hbk,hcr,hcc⟩:=hS.at hs
  subst hp0
  simp only[C8]at hcr
  obtain⟨q1,q2⟩:=BE f0 hbk
  have iv:=fun o=>ih e x s ha hs (d+1) (by omega) (by omega) ((n1,o)::A) (SubA.fresh f0 (SubA.refl _))
  simp only[EG,C8]at iv
  obtain⟨r1,r2⟩:=kn x (d+1)
  have w2:IntKind.i64.wrap (k+Lw x (d+1))=k+Lw x (d+1):=Az (by omega) (by omega)
  refine At.intro (by kernel_rfl) ?_
  intro ν fr;have nuE:=And.intro (fr.mem (b:=n1) (by simp)) (fr.nu)
  simp (maxDischargeDepth:=16) only[Af,↓Ae,simprocAttr,forall_const,nuE,fr.2,Cz,↓AK,↓AJ,lt,li,eq_true hkm,hbk,hcr,q1,q2,wd,iv,w2,we]
  exact At.weak (ihl (e+1) (k+Lw x (d+1)) hd' (by omega) (by omega) (by omega)) (by simp only[Bo,Ag,Nat.reduceEqDiff,↓reduceIte,reduceCtorEq,Nat.reduceAdd,and_self,and_true]) (SubA.refl _)
theorem siS_w(A:AH)(op n:Int)(nm tx:ByteArray)(args:List Xs)(p:Option Addr)(cap:Nat)(rs:List Xr)(hl:args.length≤140737488355328)(hrs:rs.length=args.length)(hS:E8 C8 5 A p rs)(hn:nm.size≤140737488351232)(ht:tx.size≤140737488351232)(d:Int)(hd0:0≤d)(hd1:d≤31)(ih: ∀(k:Nat) (x:Xs) (r:Xr),args[k]? =some x→rs[k]? =some r→ ∀d':Int,0≤d'→d'≤31→ ∀B,SubA A B→Bi Tryz.prog 31 #[EG r,.int .i64 d'] B=some (.int .i64 (Lw x d')))(B_:AH)(hB_:SubA A B_):Bi Tryz.prog 31 #[.agg #[.int .i64 op,.string nm,.string tx,.int .i64 n,.slice p args.length cap],.int .i64 d] B_=some (.int .i64 (Lw (.mk op nm tx n args) d)):=BP (Ce (by kernel_rfl) (siS_h A op n nm tx args p cap rs hl hrs hS hn ht d hd0 hd1 ih) hB_)
theorem siV{A:AH}{t:Xs}{r:Xr}(h:ExR A t r):NbX t→ ∀d:Int,0≤d→d≤31→ ∀B,SubA A B→Bi Tryz.prog 31 #[EG r,.int .i64 d] B=some (.int .i64 (Lw t d)):=by
 induction h with
 | @mk op n nm tx args p cap rs h0 h0' h1 h2 h3 ih=>
  rintro(⟨_,_,n1,n2,n3⟩) d hd0 hd1 B hB
  exact siS_w A op n nm tx args p cap rs h0 h1 h2 n1 n2 d hd0 hd1 (fun k x r hx hr d' a b C hC=>ih k x r hx hr (n3 x (List.mem_of_getElem? hx)) d' a b C hC) B hB
theorem smlV_h(A:AH)(us:List Fu)(p:Option Addr)(cap:Nat)(hl:us.length≤140737488355328)(hR:Kb A us p)(hn: ∀u∈us,mR u):Ak Tryz.prog 10 #[.slice p us.length cap] A (fun u_ A_=>u_=.bool (Wi us)∧SubA A A_):=by
 refine AQ ⟨Tryz.prog,10,Tryz.f10,33,[0,2,3],⟨[],none⟩,[],_⟩ rfl (args:=[_]) Tryz.func10 rfl (by kernel_rfl) Tryz.ntmps10 (by simp) (by kernel_rfl) ?_
 intro ν fr;have nuE:=fr.nu
 obtain⟨rs,hrl,hS,hall⟩:=hR
 have k80:((us.length:Int)≤80)=(us.length≤80):=propext (by omega)
 simp (maxDischargeDepth:=16) only[Af,↓Ae,simprocAttr,forall_const,nuE,fr.2,Cz,↓AK,↓AJ]
 clear nuE fr
 obtain⟨e,l,he,hd,hle,h80,hx⟩: ∃(e:Nat) (l:List Fu),e=0∧l=(us.take 80).drop e∧e≤us.length∧e≤80∧Wi us=(Mo l&&decide (us.length≤80)):=⟨0,_,rfl,rfl,by omega,by omega,rfl⟩
 rw[hx]
 rw[show(3,some (Value.int .i64 0))=(3,some (Value.int .i64 (e:Int))) by rw[he];rfl]
 clear he hx
 have htl:(us.take 80).length=min 80 us.length:=List.length_take
 induction l generalizing e with
 | nil=>
  obtain⟨hn1,hn2⟩:=drop_nil hd (by omega)
  refine At.intro (by kernel_rfl) ?_
  intro ν fr;have nuE:=fr.nu
  by_cases hlu:e<us.length
  ·have lt:((e:Int)<(us.length:Int))=True:=eq_true (by omega)
   have lt80:((e:Int)<80)=False:=eq_false (by omega)
   simp (maxDischargeDepth:=16) only[Af,↓Ae,simprocAttr,forall_const,nuE,fr.2,Cz,↓AK,↓AJ,lt,lt80,k80]
   simp[Mo]
  ·have lt:((e:Int)<(us.length:Int))=False:=eq_false (by omega)
   simp (maxDischargeDepth:=16) only[Af,↓Ae,simprocAttr,forall_const,nuE,fr.2,Cz,↓AK,↓AJ,lt,k80]
   simp[Mo]
 | cons u l ihl=>
  obtain⟨ha,hlt,hd',htk⟩:=DH hd
  rw[htl]at hlt
  have ha':us[e]? =some u:=by rw[List.getElem?_take,if_pos (by omega)]at ha;exact ha
  have lt:((e:Int)<(us.length:Int))=True:=eq_true (by omega)
  have lt80:((e:Int)<80)=True:=eq_true (by omega)
  have li:((e:Int)<0)=False:=eq_false (by omega)
  have we:IntKind.i64.wrap ((e:Int)+1)=((e+1:Nat):Int):=by rw[Az (by omega) (by omega)];omega
  obtain⟨r,hr⟩: ∃r,rs[e]? =some r:=⟨_,List.getElem?_eq_getElem (by omega)⟩
  obtain⟨bk,off,cs,ty,fr0,hp0,hbk,hcr,hcc⟩:=hS.at hr
  subst hp0
  obtain⟨hr1,hrw,_⟩:=hall e u r ha' hr
  have c0:cs[off+e*10]? =some (.string u.nm):=hcc 0 _ (by simp[G2,hr1])
  have w5:EZ (some (.cells cs ty fr0)) (off+e*10+1) 5=some #[.int .i64 r.w.op,.string r.w.nm,.string r.w.tx,.int .i64 r.w.n,.slice r.w.p r.w.len r.w.cap]:=by
   have h:=Og hcr (k:=1) (n:=5) (by decide)
   simpa[G2]using h
  have k2:(100<(u.nm.size:Int))=(100<u.nm.size):=propext (by omega)
  have iv:=siV hrw (hn u (List.mem_of_getElem? ha')) 0 (by omega) (by omega) A (SubA.refl _)
  simp only[EG,C8]at iv
  refine At.intro (by kernel_rfl) ?_
  intro ν fr;have nuE:=fr.nu
  by_cases h2:100<u.nm.size
  ·simp (maxDischargeDepth:=16) only[Af,↓Ae,simprocAttr,forall_const,nuE,fr.2,Cz,↓AK,↓AJ,lt,lt80,li,hbk,c0,k2,eq_true h2]
   simp[Mo,show¬u.nm.size≤100 by omega]
  by_cases h3:200<Lw u.w 0
  ·simp (maxDischargeDepth:=16) only[Af,↓Ae,simprocAttr,forall_const,nuE,fr.2,Cz,↓AK,↓AJ,lt,lt80,li,hbk,c0,k2,eq_false h2,w5,iv,eq_true h3]
   simp[Mo,show¬Lw u.w 0≤200 by omega]
  simp (maxDischargeDepth:=16) only[Af,↓Ae,simprocAttr,forall_const,nuE,fr.2,Cz,↓AK,↓AJ,lt,lt80,li,hbk,c0,k2,eq_false h2,w5,iv,eq_false h3,we]
  have e1:Mo (u::l)=Mo l:=by simp[Mo,show u.nm.size≤100 by omega,show Lw u.w 0≤200 by omega]
  rw[e1]
  exact At.weak (ihl (e+1) hd' (by omega) (by omega)) (by simp only[Bo,Ag,Nat.reduceEqDiff,↓reduceIte,reduceCtorEq,Nat.reduceAdd,and_self,and_true]) (SubA.refl _)
theorem dw(A:AH)(us:List Fu)(p:Option Addr)(cap:Nat)(hl:us.length≤140737488355328)(hR:Kb A us p)(hn: ∀u∈us,mR u)(B_:AH)(hB_:SubA A B_):Bi Tryz.prog 10 #[.slice p us.length cap] B_=some (.bool (Wi us)):=BP (Ce (by kernel_rfl) (smlV_h A us p cap hl hR hn) hB_)
end Go.Proofs.YtfphceknmgadgaaGreatDoor
namespace Go.Proofs.YtfphceknmgadgaaGreatDoor
open Go.Vm
set_option maxHeartbeats 4000000
set_option maxRecDepth 20000
theorem Wk: ∀(d:Nat),d<10→(ByteArray.mk #[48,49,50,51,52,53,54,55,56,57]).extract d (d+1)=bs [UInt8.ofNat (48+d)]:=by decide
theorem m9(n:Nat)(h0:0<n)(hn:n≤9223372036854775807):Ak Tryz.prog 99 #[.int .i64 (n:Int),.int .i64 1] [] (fun u_ _=>u_=.string (bs (Lib.decDigits n))):=by
 refine AQ ⟨Tryz.prog,99,Tryz.f99,25,[0,1,4,5],⟨[],none⟩,[],_⟩ rfl (args:=[_,_]) Tryz.func99 rfl (by kernel_rfl) Tryz.ntmps99 (by simp) (by kernel_rfl) ?_
 intro ν fr;have nuE:=fr.nu
 simp (maxDischargeDepth:=16) only[Af,↓Ae,simprocAttr,forall_const,nuE,fr.2,Cz,↓AK,↓AJ]
 have hlen:(Lib.decDigits n).length≤19:=HS 19 n (by omega) (by omega)
 obtain⟨m,acc,hm,ha,hp,hd⟩: ∃(m:Nat) (acc:List UInt8),m=n∧acc=[]∧(m=0→acc≠[])∧Lib.decDigits n=(if m=0 then []else Lib.decDigits m)++acc:=⟨n,[],rfl,rfl,fun h=>by omega,by rw[if_neg (by omega)];simp⟩
 have hmn:m≤n:=by omega
 rw[show(5,some (Value.string ⟨#[]⟩))=(5,some (Value.string (bs acc))) by rw[ha];rfl]
 rw[show(0,some (Value.int .i64 (n:Int)))=(0,some (Value.int .i64 (m:Int))) by rw[hm]]
 clear ha hm nuE fr
 induction m using Nat.strongRecOn generalizing acc with
 | ind m ih=>
  have hal:acc.length≤19:=by have:=congrArg List.length hd;rw[List.length_append]at this;omega
  by_cases hm0:m=0
  ·subst hm0
   rw[if_pos rfl,List.nil_append]at hd
   have q1:((0:Int)<((0:Nat):Int))=False:=eq_false (by omega)
   have q2:((acc.length:Int)<1)=False:=eq_false (by have:=List.length_pos_iff.2 (hp rfl);omega)
   refine At.intro (by kernel_rfl) ?_
   intro ν fr;have nuE:=fr.nu
   simp (maxDischargeDepth:=16) only[Af,↓Ae,simprocAttr,forall_const,nuE,fr.2,Cz,↓AK,↓AJ,q1,q2,Ao,hd]
  ·rw[if_neg hm0]at hd
   have q1:((0:Int)<(m:Int))=True:=eq_true (by omega)
   have r1:(m:Int).tmod 10=((m % 10:Nat):Int):=by rw[Int.tmod_eq_emod_of_nonneg (by omega)];omega
   have r0:(((m % 10:Nat):Int)<0)=False:=eq_false (by omega)
   have r2:IntKind.i64.wrap ((m:Int).tdiv 10)=((m / 10:Nat):Int):=by rw[Int.tdiv_eq_ediv_of_nonneg (by omega),Az (by omega) (by omega)];omega
   have r3:IntKind.i64.wrap (((m % 10:Nat):Int)+1)=((m % 10+1:Nat):Int):=by rw[Az (by omega) (by omega)];omega
   have r4:(((m % 10:Nat):Int)≤((m % 10+1:Nat):Int))=True:=by simp;omega
   have r5:(((m % 10+1:Nat):Int)≤((ByteArray.mk #[48,49,50,51,52,53,54,55,56,57]).size:Int))=True:=by simp[ByteArray.size];omega
   have ds:=Wk (m % 10) (by omega)
   have s1:1+acc.length≤9223372036854775807:=by omega
   have hd2:Lib.decDigits n=(if m / 10=0 then []else Lib.decDigits (m / 10))++(UInt8.ofNat (48+m % 10)::acc):=by
    rw[hd,Lib.decDigits]
    split
    ·rename_i h10
     rw[if_pos (by omega),Nat.mod_eq_of_lt h10];rfl
    ·rename_i h10
     rw[if_neg (by omega)];simp
   refine At.intro (by kernel_rfl) ?_
   intro ν fr;have nuE:=fr.nu
   simp (maxDischargeDepth:=16) only[Af,↓Ae,simprocAttr,forall_const,nuE,fr.2,Cz,↓AK,↓AJ,q1,r1,r0,r2,r3,r4,r5,ds,C6,Ao,s1,List.singleton_append]
   exact At.weak (ih (m / 10) (by omega) (UInt8.ofNat (48+m % 10)::acc) (fun _=>by simp) hd2 (by omega)) (by simp only[Bo,Ag,Nat.reduceEqDiff,↓reduceIte,reduceCtorEq,Nat.reduceAdd,and_self,and_true]) (SubA.refl _)
theorem Bn(n:Nat)(h0:0<n)(hn:n≤9223372036854775807)(A_:AH):Bi Tryz.prog 99 #[.int .i64 (n:Int),.int .i64 1] A_=some (.string (bs (Lib.decDigits n))):=BP (B7 (by kernel_rfl) (m9 n h0 hn))
theorem oa:Ak Tryz.prog 99 #[.int .i64 0,.int .i64 1] [] (fun u_ _=>u_=.string (bs [48])):=by
 refine AQ ⟨Tryz.prog,99,Tryz.f99,25,[0,1,4,5],⟨[],none⟩,[],_⟩ rfl (args:=[_,_]) Tryz.func99 rfl (by kernel_rfl) Tryz.ntmps99 (by simp) (by kernel_rfl) ?_
 intro ν fr;have nuE:=fr.nu
 simp (maxDischargeDepth:=16) only[Af,↓Ae,simprocAttr,forall_const,nuE,fr.2,Cz,↓AK,↓AJ,Bn]
 clear nuE fr
 have e0:(ByteArray.mk #[]).size=0:=rfl
 have ds:(ByteArray.mk #[48,49,50,51,52,53,54,55,56,57]).extract 0 1=bs [48]:=by decide
 have e1:bs [48]++ByteArray.mk #[]=bs [48]:=by decide
 have r1:(1:Int)≤((ByteArray.mk #[48,49,50,51,52,53,54,55,56,57]).size:Int):=by decide
 have t0:(0:Int).tmod 10=0:=rfl
 have t1:(0:Int).tdiv 10=0:=rfl
 have w0:IntKind.i64.wrap 0=0:=rfl
 have w1:IntKind.i64.wrap 1=1:=rfl
 refine At.intro (by kernel_rfl) ?_
 intro ν fr;have nuE:=fr.nu
 simp (maxDischargeDepth:=16) only[Af,↓Ae,simprocAttr,forall_const,nuE,fr.2,Cz,↓AK,↓AJ,Bn,e0,ds,e1,r1,Ao,t0,t1,w0,w1]
 clear nuE fr
 refine At.intro (by kernel_rfl) ?_
 intro ν fr;have nuE:=fr.nu
 simp (maxDischargeDepth:=16) only[Af,↓Ae,simprocAttr,forall_const,nuE,fr.2,Cz,↓AK,↓AJ,Bn,Ao]
theorem Bu(A_:AH):Bi Tryz.prog 99 #[.int .i64 0,.int .i64 1] A_=some (.string (bs [48])):=BP (B7 (by kernel_rfl) (oa))
theorem iR{d:Int}(h0:0≤d)(h1:d≤9223372036854775807)(A:AH):Bi Tryz.prog 99 #[.int .i64 d,.int .i64 1] A=some (.string (bs (Lib.itoa d))):=by
 obtain⟨m,rfl⟩: ∃m:Nat,d=(m:Int):=⟨d.toNat,by omega⟩
 have:Lib.itoa (m:Int)=Lib.decDigits m:=by simp[Lib.itoa]
 rw[this]
 by_cases hm:m=0
 ·subst hm
  have:=Bu A
  rwa [show Lib.decDigits 0=[48] by decide+kernel]
 ·exact Bn m (by omega) (by omega) A
theorem vU(op:Int):Ak Tryz.prog 101 #[.int .i64 op] [] (fun u_ _=>u_=.int .i64 (Ev op)):=by
 refine AQ ⟨Tryz.prog,101,Tryz.f101,19,[0,2,3],⟨[],none⟩,[],_⟩ rfl (args:=[_]) Tryz.func101 rfl (by kernel_rfl) Tryz.ntmps101 (by simp) (by kernel_rfl) ?_
 intro ν fr;have nuE:=fr.nu
 simp (maxDischargeDepth:=16) only[Af,↓Ae,simprocAttr,forall_const,nuE,fr.2,Cz,↓AK,↓AJ,Bn,Bu]
 unfold Ev
 repeat' split
 all_goals simp_all
theorem CT(op:Int)(A_:AH):Bi Tryz.prog 101 #[.int .i64 op] A_=some (.int .i64 (Ev op)):=BP (B7 (by kernel_rfl) (vU op))
theorem rmkV_h(op:Int):Ak Tryz.prog 102 #[.int .i64 op] [] (fun u_ _=>u_=.string (bs (Hh op))):=by
 refine AQ ⟨Tryz.prog,102,Tryz.f102,20,[0,2,3],⟨[],none⟩,[],_⟩ rfl (args:=[_]) Tryz.func102 rfl (by kernel_rfl) Tryz.ntmps102 (by simp) (by kernel_rfl) ?_
 intro ν fr;have nuE:=fr.nu
 simp (maxDischargeDepth:=16) only[Af,↓Ae,simprocAttr,forall_const,nuE,fr.2,Cz,↓AK,↓AJ,Bn,Bu,CT]
 unfold Hh
 repeat' split
 all_goals simp_all[bs]
theorem CV(op:Int)(A_:AH):Bi Tryz.prog 102 #[.int .i64 op] A_=some (.string (bs (Hh op))):=BP (B7 (by kernel_rfl) (rmkV_h op))
theorem l40:(ByteArray.mk #[40])=bs [40]:=rfl
theorem l41:(ByteArray.mk #[41])=bs [41]:=rfl
theorem l34:(ByteArray.mk #[34])=bs [34]:=rfl
theorem l45:(ByteArray.mk #[45])=bs [45]:=rfl
theorem l32:(ByteArray.mk #[32])=bs [32]:=rfl
theorem lco:(ByteArray.mk #[44,32])=bs [44,32]:=rfl
theorem lct:(ByteArray.mk #[99,111,117,110,116,40])=bs [99,111,117,110,116,40]:=rfl
theorem lsu:(ByteArray.mk #[115,117,109,40])=bs [115,117,109,40]:=rfl
theorem lno:(ByteArray.mk #[110,111,116,32])=bs [110,111,116,32]:=rfl
theorem lin_:(ByteArray.mk #[32,105,110,32,40])=bs [32,105,110,32,40]:=rfl
def TxC(A:AH)(x:Xs)(s:Xr):Prop:=s.op=opO x∧ ∀B,SubA A B→Bi Tryz.prog 72 #[EG s] B=some (.string (bs (tX x)))
theorem uw(A:AH)(r:Xr)(t:Xs)(k:Int)(h:TxC A t r)(hl:(tX t).length≤1000000000):Ak Tryz.prog 100 #[.agg #[.int .i64 r.op,.string r.nm,.string r.tx,.int .i64 r.n,.slice r.p r.len r.cap],.int .i64 k] A (fun u_ A_=>u_=.string (bs (GG k t))∧SubA A A_):=by
 refine AQ ⟨Tryz.prog,100,Tryz.f100,16,[0,1,2,4],⟨[],none⟩,[],_⟩ rfl (args:=[_,_]) Tryz.func100 rfl (by kernel_rfl) Tryz.ntmps100 (by simp) (by kernel_rfl) ?_
 intro ν fr;have nuE:=fr.nu
 obtain⟨hop,hi⟩:=h
 have f0:=fr.2 0
 have iv:=fun o=>hi ((ν 0,o)::A) (SubA.fresh f0 (SubA.refl _))
 simp only[EG,C8]at iv
 have hz:=Ao (tX t)
 unfold GG WS
 by_cases hk:k≤Ev (opO t)
 ·rw[if_pos (show k≤Ev (opO t,tX t).1 from hk)]
  have lt:(Ev r.op<k)=False:=eq_false (by rw[hop];omega)
  simp (maxDischargeDepth:=16) only[Af,↓Ae,simprocAttr,forall_const,nuE,fr.2,Cz,↓AK,↓AJ,Bn,Bu,CT,CV,lt,iv]
 ·rw[if_neg (show¬k≤Ev (opO t,tX t).1 from hk)]
  have lt:(Ev r.op<k)=True:=eq_true (by rw[hop];omega)
  simp (maxDischargeDepth:=16) only[Af,↓Ae,simprocAttr,forall_const,nuE,fr.2,Cz,↓AK,↓AJ,Bn,Bu,CT,CV,lt,iv,l40,l41,C6,Ao]
  exact⟨by omega,by omega,trivial⟩
theorem Jw(A:AH)(r:Xr)(t:Xs)(k:Int)(h:TxC A t r)(hl:(tX t).length≤1000000000)(B_:AH)(hB_:SubA A B_):Bi Tryz.prog 100 #[.agg #[.int .i64 r.op,.string r.nm,.string r.tx,.int .i64 r.n,.slice r.p r.len r.cap],.int .i64 k] B_=some (.string (bs (GG k t))):=BP (Ce (by kernel_rfl) (uw A r t k h hl) hB_)
theorem FL(k:Int)(x:Xs):(tX x).length≤(GG k x).length:=by
 unfold GG WS
 split
 ·exact Nat.le_refl _
 ·simp;omega
theorem more_g{α:Type}{l:List α}(h:2≤l.length): ∃a b r,l=a::b::r:=by
 match l,h with
 |a::b::r,_=>exact⟨a,b,r,rfl⟩
theorem Ka(a b:List (Int×List UInt8)):MS (a++b)=MS a++MS b:=by simp[MS]
theorem SU(k:Int)(x:Xs):MS [(opO x,tX x)]=[44,32]++GG 4 x:=by simp[MS,GG]
theorem Sr(a b:List Xs):tL (a++b)=tL a++tL b:=by rw[Ea,Ea,Ea,List.map_append]
theorem i7(l:List Xs)(i:Nat):(MS (tL (l.take i))).length≤(MS (tL l)).length:=by
 conv=>rhs;rw[←List.take_append_drop i l,Sr,Ka,List.length_append]
 omega
theorem rtxS_h(A:AH)(op n:Int)(nm tx:ByteArray)(args:List Xs)(p:Option Addr)(cap:Nat)(rs:List Xr)(hl:args.length≤140737488355328)(hrs:rs.length=args.length)(hS:E8 C8 5 A p rs)(hF:Cu op nm tx n args.length=true)(hA: ∀(k:Nat) (x:Xs) (s:Xr),args[k]? =some x→rs[k]? =some s→TxC A x s)(hlen:(CP op nm tx n (tL args)).length≤1000000000):Ak Tryz.prog 72 #[.agg #[.int .i64 op,.string nm,.string tx,.int .i64 n,.slice p args.length cap]] A (fun u_ A_=>u_=.string (bs (CP op nm tx n (tL args)))∧SubA A A_):=by
 refine AQ ⟨Tryz.prog,72,Tryz.f72,120,[0,1,2,3,4,5,6,8],⟨[],none⟩,[(9,.q false),(11,.q false),(17,.q false),(27,.q false)],_⟩ rfl (args:=[_]) Tryz.func72 rfl (by kernel_rfl) Tryz.ntmps72 (by simp) (by kernel_rfl) ?_
 intro ν fr;have nuE:=fr.nu
 have f0:=fr.2 0
 obtain⟨hn1,hn2⟩:=ZE hF
 have sA: ∀o,SubA A ((ν 0,o)::A):=fun o=>SubA.fresh f0 (SubA.refl _)
 by_cases o1:op=1
 ·subst o1
  have hB:CP 1 nm tx n (tL args)=Lib.itoa n:=rfl
  have h0:0≤n:=by
   unfold Cu at hF
   simp at hF
   omega
  rw[hB]
  have dv:=iR h0 hn2
  simp (maxDischargeDepth:=16) only[Af,↓Ae,simprocAttr,forall_const,nuE,fr.2,Cz,↓AK,↓AJ,Bn,Bu,CT,CV,dv]
 by_cases o2:op=2
 ·subst o2
  obtain⟨l,rfl⟩: ∃l,tx=bs l:=⟨_,QS tx⟩
  have hB:CP 2 nm (bs l) n (tL args)=[34]++l++[34]:=by simp[CP,EV]
  rw[hB]at hlen⊢
  simp only[List.length_append,List.length_cons,List.length_nil]at hlen
  simp (maxDischargeDepth:=16) only[Af,↓Ae,simprocAttr,forall_const,nuE,fr.2,Cz,↓AK,↓AJ,Bn,Bu,CT,CV,l34,C6,Ao]
  repeat' (first|exact trivial|refine And.intro (by first|omega|(simp only[List.length_append,List.length_cons,List.length_nil];omega)) ?_)
 by_cases o3:op=3
 ·subst o3
  have hB:CP 3 nm tx n (tL args)=nm.data.toList:=rfl
  rw[hB,←QS nm]
  simp (maxDischargeDepth:=16) only[Af,↓Ae,simprocAttr,forall_const,nuE,fr.2,Cz,↓AK,↓AJ,Bn,Bu,CT,CV]
 by_cases o16:op=16
 ·subst o16
  obtain⟨l,rfl⟩: ∃l,nm=bs l:=⟨_,QS nm⟩
  have hB:CP 16 (bs l) tx n (tL args)=[99,111,117,110,116,40]++l++[44,32]++Lib.itoa n++[41]:=rfl
  have h0:0≤n:=by
   unfold Cu at hF
   simp at hF
   omega
  rw[hB]at hlen⊢
  simp only[List.length_append,List.length_cons,List.length_nil]at hlen
  have dv:=iR h0 hn2
  simp (maxDischargeDepth:=16) only[Af,↓Ae,simprocAttr,forall_const,nuE,fr.2,Cz,↓AK,↓AJ,Bn,Bu,CT,CV,lct,lco,l41,dv,C6,Ao]
  repeat' (first|exact trivial|refine And.intro (by first|omega|(simp only[List.length_append,List.length_cons,List.length_nil];omega)) ?_)
 by_cases o17:op=17
 ·subst o17
  obtain⟨l,rfl⟩: ∃l,nm=bs l:=⟨_,QS nm⟩
  have hB:CP 17 (bs l) tx n (tL args)=[115,117,109,40]++l++[44,32]++Lib.itoa n++[41]:=rfl
  have h0:0≤n:=by
   unfold Cu at hF
   simp at hF
   omega
  rw[hB]at hlen⊢
  simp only[List.length_append,List.length_cons,List.length_nil]at hlen
  have dv:=iR h0 hn2
  simp (maxDischargeDepth:=16) only[Af,↓Ae,simprocAttr,forall_const,nuE,fr.2,Cz,↓AK,↓AJ,Bn,Bu,CT,CV,lsu,lco,l41,dv,C6,Ao]
  repeat' (first|exact trivial|refine And.intro (by first|omega|(simp only[List.length_append,List.length_cons,List.length_nil];omega)) ?_)
 by_cases o4:op=4
 ·subst o4
  have h1:args.length=1:=by
   unfold Cu at hF
   simp at hF
   omega
  obtain⟨x,rfl⟩:=List.length_eq_one_iff.1 h1
  obtain⟨s,rfl⟩:=List.length_eq_one_iff.1 hrs
  have hB:CP 4 nm tx n (tL [x])=[110,111,116,32]++GG 6 x:=by rw[←El (args:=[x]) (i:=0) 6 rfl];rfl
  rw[hB]at hlen⊢
  simp only[List.length_append,List.length_cons,List.length_nil]at hlen
  obtain⟨bk,off,cs,ty,fr0,hp0,hbk,hcr,hcc⟩:=hS.at (i:=0) rfl
  subst hp0
  obtain⟨q1,q2⟩:=BE f0 hbk
  simp only[C8,Nat.zero_mul,Nat.add_zero]at hcr
  have iv:=fun o=>Jw A s x 6 (hA 0 x s rfl rfl) (Nat.le_trans (FL 6 x) (by omega)) _ (sA o)
  simp (maxDischargeDepth:=16) only[Af,↓Ae,simprocAttr,forall_const,nuE,fr.2,Cz,↓AK,↓AJ,Bn,Bu,CT,CV,hbk,hcr,q1,q2,iv,lno,C6,Ao]
  repeat' (first|exact trivial|refine And.intro (by first|omega|(simp only[List.length_append,List.length_cons,List.length_nil];omega)) ?_)
 by_cases o5:op=5
 ·subst o5
  have h1:args.length=1:=by
   unfold Cu at hF
   simp at hF
   omega
  obtain⟨x,rfl⟩:=List.length_eq_one_iff.1 h1
  obtain⟨s,rfl⟩:=List.length_eq_one_iff.1 hrs
  have hB:CP 5 nm tx n (tL [x])=[45]++GG 6 x:=by rw[←El (args:=[x]) (i:=0) 6 rfl];rfl
  rw[hB]at hlen⊢
  simp only[List.length_append,List.length_cons,List.length_nil]at hlen
  obtain⟨bk,off,cs,ty,fr0,hp0,hbk,hcr,hcc⟩:=hS.at (i:=0) rfl
  subst hp0
  obtain⟨q1,q2⟩:=BE f0 hbk
  simp only[C8,Nat.zero_mul,Nat.add_zero]at hcr
  have iv:=fun o=>Jw A s x 6 (hA 0 x s rfl rfl) (Nat.le_trans (FL 6 x) (by omega)) _ (sA o)
  simp (maxDischargeDepth:=16) only[Af,↓Ae,simprocAttr,forall_const,nuE,fr.2,Cz,↓AK,↓AJ,Bn,Bu,CT,CV,hbk,hcr,q1,q2,iv,l45,C6,Ao]
  repeat' (first|exact trivial|refine And.intro (by first|omega|(simp only[List.length_append,List.length_cons,List.length_nil];omega)) ?_)
 by_cases o15:op=15
 ·subst o15
  have h2:2≤args.length:=by
   unfold Cu at hF
   simp at hF
   exact hF.2
  obtain⟨a,b,rest,rfl⟩:=Sl h2
  obtain⟨s,s',rrest,rfl⟩:=more_g (l:=rs) (by omega)
  have hB:CP 15 nm tx n (tL (a::b::rest))=GG 4 a++[32,105,110,32,40]++(GG 4 b++MS (tL rest))++[41]:=by
   rw[←El (args:=a::b::rest) (i:=0) 4 rfl];rfl
  rw[hB]at hlen⊢
  simp only[List.length_append,List.length_cons,List.length_nil]at hlen
  obtain⟨bk,off,cs,ty,fr0,hp0,hbk,hcr,hcc⟩:=hS.at (i:=0) rfl
  obtain⟨bk',off',cs',ty',fr0',hp0',hbk',hcr',hcc'⟩:=hS.at (i:=1) rfl
  subst hp0
  cases hp0'
  obtain⟨q1,q2⟩:=BE f0 hbk
  rw[hbk]at hbk'
  cases hbk'
  simp only[C8,Nat.zero_mul,Nat.add_zero,Nat.one_mul]at hcr hcr'
  have iv:=fun o=>Jw A s a 4 (hA 0 a s rfl rfl) (Nat.le_trans (FL 4 a) (by omega)) _ (sA o)
  have iv2:=fun o=>Jw A s' b 4 (hA 1 b s' rfl rfl) (Nat.le_trans (FL 4 b) (by omega)) _ (sA o)
  have lt0:((0:Int)<((a::b::rest).length:Int))=True:=eq_true (by simp only[List.length_cons];omega)
  have lt1:((1:Int)<((a::b::rest).length:Int))=True:=eq_true (by simp only[List.length_cons];omega)
  obtain⟨N,hN⟩: ∃N,(a::b::rest).length=N:=⟨_,rfl⟩
  rw[hN]at lt0 lt1 hl
  have hN2:rest.length+2=N:=by rw[←hN];rfl
  rw[hN]
  simp (maxDischargeDepth:=16) only[Af,↓Ae,simprocAttr,forall_const,nuE,fr.2,Cz,↓AK,↓AJ,Bn,Bu,CT,CV,lt0,lt1,hbk,hcr,hcr',q1,q2,iv,iv2,lin_,C6,Ao]
  repeat' (first|exact trivial|refine And.intro (by first|omega|(simp only[List.length_append,List.length_cons,List.length_nil];omega)) ?_)
  have dst_:True:=(by simp[nuE]);generalize ν 0=n1 at dst_  f0⊢
  clear nuE fr iv iv2
  have sN: ∀o,SubA A ((n1,o)::A):=fun o=>SubA.fresh f0 (SubA.refl _)
  obtain⟨e,l,acc,he,hac0,hac,hd,hle⟩: ∃(e:Nat) (l:List Xs) (acc:List UInt8),e=0∧acc=GG 4 a++[32,105,110,32,40]++GG 4 b∧acc=GG 4 a++[32,105,110,32,40]++GG 4 b++MS (tL (rest.take e))∧l=rest.drop e∧e≤rest.length:=⟨0,rest,_,rfl,rfl,by simp[tL,MS],rfl,by omega⟩
  rw[show(4,some (Value.int .i64 2))=(4,some (Value.int .i64 ((e+2:Nat):Int))) by rw[he];rfl,←hac0]
  clear he hac0
  induction l generalizing e acc with
  |nil=>
   obtain⟨hn1,hn2⟩:=drop_nil hd hle
   have lt:(((e+2:Nat):Int)<(N:Int))=False:=eq_false (by omega)
   rw[hn2]at hac
   have hsz:acc.length+1≤1000000000:=by rw[hac];simp only[List.length_append,List.length_cons,List.length_nil];omega
   refine At.intro (by kernel_rfl) ?_
   intro ν fr;have nuE:=And.intro (fr.mem (b:=n1) (by simp)) (fr.nu)
   simp (maxDischargeDepth:=16) only[Af,↓Ae,simprocAttr,forall_const,nuE,fr.2,Cz,↓AK,↓AJ,Bn,Bu,CT,CV,lt,l41,C6,Ao]
   refine And.intro (by omega) (And.intro ?_ (sN _))
   rw[hac]
   simp only[List.append_assoc]
  |cons x l ih=>
   obtain⟨ha,hlt,hd',htk⟩:=DH hd
   have lt:(((e+2:Nat):Int)<(N:Int))=True:=eq_true (by omega)
   have li:(((e+2:Nat):Int)<0)=False:=eq_false (by omega)
   have we:IntKind.i64.wrap (((e+2:Nat):Int)+1)=((e+1+2:Nat):Int):=by rw[Az (by omega) (by omega)];omega
   obtain⟨z,hz⟩: ∃z,(s::s'::rrest)[e+2]? =some z:=⟨_,List.getElem?_eq_getElem (by rw[hrs];omega)⟩
   obtain⟨bk',off',cs',ty',fr0',hp0',hbk',hcz,_⟩:=hS.at hz
   cases hp0'
   rw[hbk]at hbk'
   cases hbk'
   simp only[C8]at hcz
   have htc:=hA (e+2) x z (by simpa using ha) hz
   have hpre:=i7 rest (e+1)
   rw[htk,Sr,Ka,List.length_append,tL,tL,SU 4 x,List.length_append,List.length_cons,List.length_cons,List.length_nil]at hpre
   have hg:=FL 4 x
   have hal:acc.length+2+(GG 4 x).length≤1000000000:=by rw[hac];simp only[List.length_append,List.length_cons,List.length_nil];omega
   obtain⟨q1,q2⟩:=BE f0 hbk
   have iv:=fun o=>Jw A z x 4 htc (by omega) _ (sN o)
   refine At.intro (by kernel_rfl) ?_
   intro ν fr;have nuE:=And.intro (fr.mem (b:=n1) (by simp)) (fr.nu)
   simp (maxDischargeDepth:=16) only[Af,↓Ae,simprocAttr,forall_const,nuE,fr.2,Cz,↓AK,↓AJ,Bn,Bu,CT,CV,lt,li,hbk,hcz,q1,q2,iv,lco,C6,Ao,we]
   repeat' (first|exact trivial|refine And.intro (by first|omega|(simp only[List.length_append,List.length_cons,List.length_nil];omega)) ?_)
   refine At.weak (ih (e+1) (acc++[44,32]++GG 4 x) ?_ hd' (by omega)) (by simp only[Bo,Ag,Nat.reduceEqDiff,↓reduceIte,reduceCtorEq,Nat.reduceAdd,and_self,and_true]) (SubA.refl _)
   rw[hac,htk,Sr,Ka,tL,tL,SU 4 x]
   simp only[List.append_assoc]
 have hm:6≤op∧op≤14∧args.length=2:=by
  unfold Cu at hF
  rw[if_neg o1,if_neg o2,if_neg o3,if_neg (by omega),if_neg (by omega)]at hF
  simp only[Bool.and_eq_true]at hF
  have:=hF.2
  split at this
  ·rename_i h;simp at this;omega
  ·simp at this;omega
 obtain⟨hm1,hm2,h2⟩:=hm
 obtain⟨x,y,rfl⟩:=Kz h2
 obtain⟨s,s',rfl⟩:=Kz (hrs.trans h2)
 have hB:CP op nm tx n (tL [x,y])=GG (L4 op) x++([32]++Hh op++[32])++GG (Ev op+1) y:=by
  rw[←El (args:=[x,y]) (i:=0) _ rfl,←El (args:=[x,y]) (i:=1) _ rfl]
  unfold CP
  rw[if_neg o1,if_neg o2,if_neg o3,if_neg o16,if_neg o17,if_neg o4,if_neg o5,if_neg o15]
 rw[hB]at hlen⊢
 simp only[List.length_append,List.length_cons,List.length_nil]at hlen
 have lv:0≤Ev op∧Ev op≤6:=by unfold Ev;repeat' split;all_goals omega
 have wl:IntKind.i64.wrap (Ev op+1)=Ev op+1:=Az (by omega) (by omega)
 have sl:=aC op
 obtain⟨bk,off,cs,ty,fr0,hp0,hbk,hcr,hcc⟩:=hS.at (i:=0) rfl
 obtain⟨bk',off',cs',ty',fr0',hp0',hbk',hcr',hcc'⟩:=hS.at (i:=1) rfl
 subst hp0
 cases hp0'
 obtain⟨q1,q2⟩:=BE f0 hbk
 rw[hbk]at hbk'
 cases hbk'
 simp only[C8,Nat.zero_mul,Nat.add_zero,Nat.one_mul]at hcr hcr'
 have g1:=FL (L4 op) x
 have g2:=FL (Ev op+1) y
 have iv2:=fun o=>Jw A s' y (Ev op+1) (hA 1 y s' rfl rfl) (by omega) _ (sA o)
 have iv:=fun o=>Jw A s x (L4 op) (hA 0 x s rfl rfl) (by omega) _ (sA o)
 by_cases hl3:Ev op=3
 ·have hle:L4 op=4:=by unfold L4;rw[if_pos hl3]
  have h4:Ev op+1=4:=by omega
  have w4:IntKind.i64.wrap 4=4:=rfl
  rw[hle]at iv hlen⊢
  rw[h4]at iv2 hlen⊢
  simp (maxDischargeDepth:=16) only[Af,↓Ae,simprocAttr,forall_const,nuE,fr.2,Cz,↓AK,↓AJ,Bn,Bu,CT,CV,eq_false o1,eq_false o2,eq_false o3,eq_false o16,eq_false o17,eq_false o4,eq_false o5,eq_false o15,hl3,hbk,hcr,hcr',q1,q2,iv,iv2,w4,l32,C6,Ao]
  repeat' (first|exact trivial|refine And.intro (by first|omega|(simp only[List.length_append,List.length_cons,List.length_nil];omega)) ?_)
  simp only[List.append_assoc,List.cons_append,List.nil_append]
 ·have hle:L4 op=Ev op:=by unfold L4;rw[if_neg hl3]
  rw[hle]at iv hlen⊢
  simp (maxDischargeDepth:=16) only[Af,↓Ae,simprocAttr,forall_const,nuE,fr.2,Cz,↓AK,↓AJ,Bn,Bu,CT,CV,eq_false o1,eq_false o2,eq_false o3,eq_false o16,eq_false o17,eq_false o4,eq_false o5,eq_false o15,eq_false hl3,hbk,hcr,hcr',q1,q2,iv,iv2,wl,l32,C6,Ao]
  repeat' (first|exact trivial|refine And.intro (by first|omega|(simp only[List.length_append,List.length_cons,List.length_nil];omega)) ?_)
  simp only[List.append_assoc,List.cons_append,List.nil_append]
theorem vN(A:AH)(op n:Int)(nm tx:ByteArray)(args:List Xs)(p:Option Addr)(cap:Nat)(rs:List Xr)(hl:args.length≤140737488355328)(hrs:rs.length=args.length)(hS:E8 C8 5 A p rs)(hF:Cu op nm tx n args.length=true)(hA: ∀(k:Nat) (x:Xs) (s:Xr),args[k]? =some x→rs[k]? =some s→TxC A x s)(hlen:(CP op nm tx n (tL args)).length≤1000000000)(B_:AH)(hB_:SubA A B_):Bi Tryz.prog 72 #[.agg #[.int .i64 op,.string nm,.string tx,.int .i64 n,.slice p args.length cap]] B_=some (.string (bs (CP op nm tx n (tL args)))):=BP (Ce (by kernel_rfl) (rtxS_h A op n nm tx args p cap rs hl hrs hS hF hA hlen) hB_)
theorem vM{op n:Int}{nm tx:ByteArray}{args:List Xs}(hF:Cu op nm tx n args.length=true): ∀x∈args,(tX x).length≤(CP op nm tx n (tL args)).length:=by
 intro z hz
 have hne:args.length≠0:=fun h=>by rw[List.eq_nil_of_length_eq_zero h]at hz;cases hz
 unfold Cu at hF
 split at hF
 ·simp at hF;exact absurd (by rw[hF.2];rfl) hne
 split at hF
 ·simp at hF;exact absurd (by rw[hF.2];rfl) hne
 split at hF
 ·simp at hF;exact absurd (by rw[hF.2];rfl) hne
 split at hF
 ·simp at hF;exact absurd (by rw[hF.2];rfl) hne
 rename_i o1 o2 o3 o16
 simp only[Bool.and_eq_true]at hF
 have hF:=hF.2
 split at hF
 ·rename_i o4
  obtain⟨x,rfl⟩:=List.length_eq_one_iff.1 (of_decide_eq_true hF)
  rw[List.mem_singleton.1 hz]
  have hg:=FL 6 x
  rcases o4 with rfl|rfl
  ·have hB:CP 4 nm tx n (tL [x])=[110,111,116,32]++GG 6 x:=by rw[←El (args:=[x]) (i:=0) 6 rfl];rfl
   rw[hB,List.length_append];omega
  ·have hB:CP 5 nm tx n (tL [x])=[45]++GG 6 x:=by rw[←El (args:=[x]) (i:=0) 6 rfl];rfl
   rw[hB,List.length_append];omega
 rename_i o4
 split at hF
 ·rename_i h6
  obtain⟨x,y,rfl⟩:=Kz (of_decide_eq_true hF)
  have hB:CP op nm tx n (tL [x,y])=GG (L4 op) x++([32]++Hh op++[32])++GG (Ev op+1) y:=by
   rw[←El (args:=[x,y]) (i:=0) _ rfl,←El (args:=[x,y]) (i:=1) _ rfl]
   unfold CP
   rw[if_neg o1,if_neg o2,if_neg o3,if_neg (by omega),if_neg (by omega),if_neg (by omega),if_neg (by omega),if_neg (by omega)]
  have g1:=FL (L4 op) x
  have g2:=FL (Ev op+1) y
  rw[hB]
  simp only[List.length_append]
  rcases List.mem_cons.1 hz with e|e
  ·rw[e];omega
  ·rw[List.mem_singleton.1 e];omega
 ·simp only[Bool.and_eq_true,decide_eq_true_eq]at hF
  obtain⟨rfl,h2⟩:=hF
  obtain⟨a,b,rest,rfl⟩:=Sl h2
  have hB:CP 15 nm tx n (tL (a::b::rest))=GG 4 a++[32,105,110,32,40]++(GG 4 b++MS (tL rest))++[41]:=by
   rw[←El (args:=a::b::rest) (i:=0) 4 rfl];rfl
  rw[hB]
  simp only[List.length_append]
  have g1:=FL 4 a
  have g2:=FL 4 b
  rcases List.mem_cons.1 hz with e|e
  ·rw[e];omega
  rcases List.mem_cons.1 e with e|e
  ·rw[e];omega
  obtain⟨l1,l2,rfl⟩:=List.append_of_mem e
  have g3:=FL 4 z
  rw[Sr,tL,Ka]
  have:MS ((opO z,tX z)::tL l2)=MS [(opO z,tX z)]++MS (tL l2):=by rw[←Ka];rfl
  rw[this,SU 4 z]
  simp only[List.length_append]
  omega
theorem rtxX{A:AH}{t:Xs}{r:Xr}(h:ExR A t r):wX t=true→(tX t).length≤1000000000→TxC A t r:=by
 induction h with
 | @mk op n nm tx args p cap rs h0 h0' h1 h2 h3 ih=>
  intro hw hl
  obtain⟨hF,hall⟩:=SY hw
  rw[tX]at hl
  refine⟨rfl,fun B hB=> ?_⟩
  rw[tX]
  exact vN A op n nm tx args p cap rs h0 h1 h2 hF (fun k x s hx hs=>ih k x s hx hs (hall x (List.mem_of_getElem? hx)) (Nat.le_trans (vM hF x (List.mem_of_getElem? hx)) hl)) hl B hB
end Go.Proofs.YtfphceknmgadgaaGreatDoor
namespace Go.Proofs.YtfphceknmgadgaaGreatDoor
open Go.Vm
set_option maxHeartbeats 4000000
set_option maxRecDepth 20000
theorem rreV_h(s:ByteArray):Ak Tryz.prog 123 #[.string s] [] (fun u_ _=>u_=.bool (Ju s)):=by
 refine AQ ⟨Tryz.prog,123,Tryz.f123,17,[0,2,3],⟨[],none⟩,[],_⟩ rfl (args:=[_]) Tryz.func123 rfl (by kernel_rfl) Tryz.ntmps123 (by simp) (by kernel_rfl) ?_
 intro ν fr;have nuE:=fr.nu
 simp (maxDischargeDepth:=16) only[Af,↓Ae,simprocAttr,forall_const,nuE,fr.2,Cz,↓AK,↓AJ,Bn,Bu,CT,CV]
 unfold Ju
 repeat' split
 all_goals simp_all
theorem DN(s:ByteArray)(A_:AH):Bi Tryz.prog 123 #[.string s] A_=some (.bool (Ju s)):=BP (B7 (by kernel_rfl) (rreV_h s))
theorem rinV_h(s:ByteArray):Ak Tryz.prog 98 #[.string s] [] (fun u_ _=>u_=.bool (Hi s)):=by
 refine AQ ⟨Tryz.prog,98,Tryz.f98,10,[0,2],⟨[],none⟩,[],_⟩ rfl (args:=[_]) Tryz.func98 rfl (by kernel_rfl) Tryz.ntmps98 (by simp) (by kernel_rfl) ?_
 intro ν fr;have nuE:=fr.nu
 unfold Hi
 cases h1:DS s with
 |true=>cases h2:Ju s<;>simp (maxDischargeDepth:=16) only[Af,↓Ae,simprocAttr,forall_const,nuE,fr.2,Cz,↓AK,↓AJ,Bn,Bu,CT,CV,DN,h1,h2]
 |false=>simp (maxDischargeDepth:=16) only[Af,↓Ae,simprocAttr,forall_const,nuE,fr.2,Cz,↓AK,↓AJ,Bn,Bu,CT,CV,DN,h1]
theorem De(s:ByteArray)(A_:AH):Bi Tryz.prog 98 #[.string s] A_=some (.bool (Hi s)):=BP (B7 (by kernel_rfl) (rinV_h s))
theorem nP(s:ByteArray)(hs:s.size≤9223372036854775807):Ak Tryz.prog 97 #[.string s] [] (fun u_ _=>u_=.bool (Gq s)):=by
 refine AQ ⟨Tryz.prog,97,Tryz.f97,29,[0,2,3],⟨[],none⟩,[],_⟩ rfl (args:=[_]) Tryz.func97 rfl (by kernel_rfl) Tryz.ntmps97 (by simp) (by kernel_rfl) ?_
 intro ν fr;have nuE:=fr.nu
 simp (maxDischargeDepth:=16) only[Af,↓Ae,simprocAttr,forall_const,nuE,fr.2,Cz,↓AK,↓AJ,Bn,Bu,CT,CV,DN,De]
 obtain⟨e,l,he,hd,hle,hx⟩: ∃(e:Nat) (l:List UInt8),e=0∧s.toList.drop e=l∧e≤s.size∧Gq s=(decide (s.size≤100)&&l.all chB):=⟨0,_,rfl,rfl,by omega,by simp[Gq]⟩
 rw[show(3,some (Value.int .i64 0))=(3,some (Value.int .i64 (e:Int))) by rw[he];rfl]
 clear he nuE fr
 induction l generalizing e with
 | nil=>
  have hn:e=s.size:=by
   have:=congrArg List.length hd
   rw[List.length_drop,Ah]at this
   simp at this
   omega
  have lt:((e:Int)<(s.size:Int))=False:=eq_false (by omega)
  have k1:((s.size:Int)≤100)=(s.size≤100):=propext (by omega)
  refine At.intro (by kernel_rfl) ?_
  intro ν fr;have nuE:=fr.nu
  simp (maxDischargeDepth:=16) only[Af,↓Ae,simprocAttr,forall_const,nuE,fr.2,Cz,↓AK,↓AJ,Bn,Bu,CT,CV,DN,De,lt,k1]
  rw[hx];simp
 | cons c l ih=>
  obtain⟨hp,hc,hl',hsl,hb⟩:=Ck hd
  have hcl:=Dl c
  have lt:((e:Int)<(s.size:Int))=True:=eq_true (by omega)
  have we:IntKind.i64.wrap ((e:Int)+1)=((e+1:Nat):Int):=by rw[Az (by omega) (by omega)];omega
  refine At.intro (by kernel_rfl) ?_
  intro ν fr;have nuE:=fr.nu
  by_cases c1:c.toNat<32
  ·have k1:((c.toNat:Int)<32):=by omega
   have hcb:chB c=false:=by simp[chB];omega
   simp (maxDischargeDepth:=16) only[Af,↓Ae,simprocAttr,forall_const,nuE,fr.2,Cz,↓AK,↓AJ,Bn,Bu,CT,CV,DN,De,lt,hb,k1]
   rw[hx,List.all_cons,hcb];simp
  have k1:((c.toNat:Int)<32)=False:=eq_false (by omega)
  by_cases c2:126<c.toNat
  ·have k2:(126<(c.toNat:Int)):=by omega
   have hcb:chB c=false:=by simp[chB];omega
   simp (maxDischargeDepth:=16) only[Af,↓Ae,simprocAttr,forall_const,nuE,fr.2,Cz,↓AK,↓AJ,Bn,Bu,CT,CV,DN,De,lt,hb,k1,k2]
   rw[hx,List.all_cons,hcb];simp
  have k2:(126<(c.toNat:Int))=False:=eq_false (by omega)
  by_cases c3:c.toNat=34
  ·have k3:((c.toNat:Int)==34)=true:=by simp;omega
   have k3':((c.toNat:Int)=34)=True:=eq_true (by omega)
   have hcb:chB c=false:=by simp[chB];omega
   simp (maxDischargeDepth:=16) only[Af,↓Ae,simprocAttr,forall_const,nuE,fr.2,Cz,↓AK,↓AJ,Bn,Bu,CT,CV,DN,De,lt,hb,k1,k2,k3,k3']
   rw[hx,List.all_cons,hcb];simp
  have k3:((c.toNat:Int)==34)=false:=by simp;omega
  have k3':((c.toNat:Int)=34)=False:=eq_false (by omega)
  have hcb:chB c=true:=by simp[chB];omega
  simp (maxDischargeDepth:=16) only[Af,↓Ae,simprocAttr,forall_const,nuE,fr.2,Cz,↓AK,↓AJ,Bn,Bu,CT,CV,DN,De,lt,hb,k1,k2,k3,k3',we]
  exact At.weak (ih (e+1) hl' (by omega) (by rw[hx,List.all_cons,hcb,Bool.true_and])) (by simp only[Bo,Ag,Nat.reduceEqDiff,↓reduceIte,reduceCtorEq,Nat.reduceAdd,and_self,and_true]) (SubA.refl _)
theorem Dj(s:ByteArray)(hs:s.size≤9223372036854775807)(A_:AH):Bi Tryz.prog 97 #[.string s] A_=some (.bool (Gq s)):=BP (B7 (by kernel_rfl) (nP s hs))
theorem uc(A:AH)(op n:Int)(nm tx:ByteArray)(args:List Xs)(p:Option Addr)(cap:Nat)(rs:List Xr)(hl:args.length≤140737488355328)(hrs:rs.length=args.length)(hS:E8 C8 5 A p rs)(htx:tx.size≤9223372036854775807)(ih: ∀(k:Nat) (x:Xs) (r:Xr),args[k]? =some x→rs[k]? =some r→ ∀B,SubA A B→Bi Tryz.prog 71 #[EG r] B=some (.bool (wX x))):Ak Tryz.prog 71 #[.agg #[.int .i64 op,.string nm,.string tx,.int .i64 n,.slice p args.length cap]] A (fun u_ A_=>u_=.bool (wX (.mk op nm tx n args))∧SubA A A_):=by
 refine AQ ⟨Tryz.prog,71,Tryz.f71,140,[0,1,2,3,4,5,30,118],⟨[],none⟩,[],_⟩ rfl (args:=[_]) Tryz.func71 rfl (by kernel_rfl) Tryz.ntmps71 (by simp) (by kernel_rfl) ?_
 intro ν fr;have nuE:=fr.nu
 have f0:=fr.2 0
 have hw:wX (.mk op nm tx n args)=(Cu op nm tx n args.length&&args.all wX):=by rw[wX,NU]
 rw[hw]
 simp (maxDischargeDepth:=16) only[Af,↓Ae,simprocAttr,forall_const,nuE,fr.2,Cz,↓AK,↓AJ,Bn,Bu,CT,CV,DN,De,Dj]
 have dst_:True:=(by simp[nuE]);generalize ν 0=n1 at dst_  f0⊢
 clear nuE fr hw
 obtain⟨e,l,he,hd,hle,hx⟩: ∃(e:Nat) (l:List Xs),e=0∧l=args.drop e∧e≤args.length∧(Cu op nm tx n args.length&&args.all wX)=(Cu op nm tx n args.length&&l.all wX):=⟨0,_,rfl,rfl,by omega,rfl⟩
 rw[hx]
 rw[show(4,some (Value.int .i64 0))=(4,some (Value.int .i64 (e:Int))) by rw[he];rfl]
 clear he hx
 induction l generalizing e with
 | nil=>
  obtain⟨hn1,hn2⟩:=drop_nil hd hle
  have lt:((e:Int)<(args.length:Int))=False:=eq_false (by omega)
  have hN:(Cu op nm tx n args.length&&([]:List Xs).all wX)=Cu op nm tx n args.length:=by simp
  rw[hN]
  have sA: ∀o,SubA A ((n1,o)::A):=fun o=>SubA.fresh f0 (SubA.refl _)
  refine At.intro (by kernel_rfl) ?_
  intro ν fr;have nuE:=And.intro (fr.mem (b:=n1) (by simp)) (fr.nu)
  have lv:=Dj tx htx
  have kz:((args.length:Int)=0)=(args.length=0):=propext (by omega)
  have k1:((args.length:Int)=1)=(args.length=1):=propext (by omega)
  have k2:((args.length:Int)=2)=(args.length=2):=propext (by omega)
  have k3:(2≤(args.length:Int))=(2≤args.length):=propext (by omega)
  have b0:((args.length:Int)==0)=decide (args.length=0):=by rw[Bool.eq_iff_iff];simp
  have b1:((args.length:Int)==1)=decide (args.length=1):=by rw[Bool.eq_iff_iff];simp;omega
  have b2:((args.length:Int)==2)=decide (args.length=2):=by rw[Bool.eq_iff_iff];simp;omega
  have bt:(tx.toList==[])=decide (tx.toList=[]):=by cases tx.toList<;>rfl
  have bn:(nm.toList==[])=decide (nm.toList=[]):=by cases nm.toList<;>rfl
  by_cases o1:op=1
  ·subst o1
   simp (maxDischargeDepth:=16) only[Af,↓Ae,simprocAttr,forall_const,nuE,fr.2,Cz,↓AK,↓AJ,Bn,Bu,CT,CV,DN,De,Dj,lt,b0,bt,bn,DF,kz]
   all_goals repeat' split
   all_goals refine⟨?_,sA _⟩
   all_goals simp_all[Cu,He]
   all_goals by_cases k1:0≤n<;>by_cases k2:n≤9007199254740992<;>by_cases k3:tx.toList=[]<;>by_cases k4:n=0<;>simp_all<;>omega
  by_cases o2:op=2
  ·subst o2
   cases hl:Gq tx<;>simp (maxDischargeDepth:=16) only[Af,↓Ae,simprocAttr,forall_const,nuE,fr.2,Cz,↓AK,↓AJ,Bn,Bu,CT,CV,DN,De,Dj,lt,b0,bt,bn,DF,kz,lv,hl]
   all_goals repeat' split
   all_goals refine⟨?_,sA _⟩
   all_goals simp_all[Cu,He]
   all_goals by_cases k1:0≤n<;>by_cases k2:n≤9007199254740992<;>by_cases k3:tx.toList=[]<;>by_cases k4:n=0<;>simp_all<;>omega
  by_cases o3:op=3
  ·subst o3
   cases hl:Hi nm<;>simp (maxDischargeDepth:=16) only[Af,↓Ae,simprocAttr,forall_const,nuE,fr.2,Cz,↓AK,↓AJ,Bn,Bu,CT,CV,DN,De,Dj,lt,b0,bt,bn,DF,kz,hl]
   all_goals repeat' split
   all_goals refine⟨?_,sA _⟩
   all_goals simp_all[Cu,He]
   all_goals by_cases k1:0≤n<;>by_cases k2:n≤9007199254740992<;>by_cases k3:tx.toList=[]<;>by_cases k4:n=0<;>simp_all<;>omega
  by_cases o16:op=16
  ·subst o16
   cases hl:Hi nm<;>simp (maxDischargeDepth:=16) only[Af,↓Ae,simprocAttr,forall_const,nuE,fr.2,Cz,↓AK,↓AJ,Bn,Bu,CT,CV,DN,De,Dj,lt,b0,bt,bn,DF,kz,hl]
   all_goals repeat' split
   all_goals refine⟨?_,sA _⟩
   all_goals simp_all[Cu,He]
   all_goals by_cases k1:0≤n<;>by_cases k2:n≤9007199254740992<;>by_cases k3:tx.toList=[]<;>by_cases k4:n=0<;>simp_all<;>omega
  by_cases o17:op=17
  ·subst o17
   cases hl:Hi nm<;>simp (maxDischargeDepth:=16) only[Af,↓Ae,simprocAttr,forall_const,nuE,fr.2,Cz,↓AK,↓AJ,Bn,Bu,CT,CV,DN,De,Dj,lt,b0,bt,bn,DF,kz,hl]
   all_goals repeat' split
   all_goals refine⟨?_,sA _⟩
   all_goals simp_all[Cu,He]
   all_goals by_cases k1:0≤n<;>by_cases k2:n≤9007199254740992<;>by_cases k3:tx.toList=[]<;>by_cases k4:n=0<;>simp_all<;>omega
  have hF:Cu op nm tx n args.length=(He nm&&He tx&&decide (n=0)&&(if op=4∨op=5 then decide (args.length=1)else if 6≤op∧op≤14 then decide (args.length=2)else decide (op=15)&&decide (2≤args.length))):=by
   unfold Cu
   rw[if_neg o1,if_neg o2,if_neg o3,if_neg (by omega)]
  rw[hF]
  clear hF
  by_cases e1:nm.toList=[]
  rotate_left
  ·simp (maxDischargeDepth:=16) only[Af,↓Ae,simprocAttr,forall_const,nuE,fr.2,Cz,↓AK,↓AJ,Bn,Bu,CT,CV,DN,De,Dj,lt,eq_false o1,eq_false o2,eq_false o3,eq_false o16,eq_false o17,DF,eq_false e1]
   all_goals repeat' split
   all_goals first|exact sA _|exact⟨by simp[He,e1],sA _⟩
  by_cases e2:tx.toList=[]
  rotate_left
  ·simp (maxDischargeDepth:=16) only[Af,↓Ae,simprocAttr,forall_const,nuE,fr.2,Cz,↓AK,↓AJ,Bn,Bu,CT,CV,DN,De,Dj,lt,eq_false o1,eq_false o2,eq_false o3,eq_false o16,eq_false o17,DF,e1,eq_false e2]
   all_goals repeat' split
   all_goals first|exact sA _|exact⟨by simp[He,e2],sA _⟩
  by_cases e3:n=0
  rotate_left
  ·simp (maxDischargeDepth:=16) only[Af,↓Ae,simprocAttr,forall_const,nuE,fr.2,Cz,↓AK,↓AJ,Bn,Bu,CT,CV,DN,De,Dj,lt,eq_false o1,eq_false o2,eq_false o3,eq_false o16,eq_false o17,DF,e1,e2,eq_false e3]
   all_goals repeat' split
   all_goals first|exact sA _|exact⟨by simp[He,e3],sA _⟩
  have hE:(He nm&&He tx&&decide (n=0))=true:=by simp[He,e1,e2,e3]
  rw[hE,Bool.true_and]
  clear hE
  by_cases o4:op=4
  ·simp (maxDischargeDepth:=16) only[Af,↓Ae,simprocAttr,forall_const,nuE,fr.2,Cz,↓AK,↓AJ,Bn,Bu,CT,CV,DN,De,Dj,lt,o4,DF,e1,e2,e3,b1]
   first|exact sA _|exact⟨by simp,sA _⟩
  by_cases o5:op=5
  ·simp (maxDischargeDepth:=16) only[Af,↓Ae,simprocAttr,forall_const,nuE,fr.2,Cz,↓AK,↓AJ,Bn,Bu,CT,CV,DN,De,Dj,lt,o5,DF,e1,e2,e3,b1]
   first|exact sA _|exact⟨by simp,sA _⟩
  by_cases o15:op=15
  ·simp (maxDischargeDepth:=16) only[Af,↓Ae,simprocAttr,forall_const,nuE,fr.2,Cz,↓AK,↓AJ,Bn,Bu,CT,CV,DN,De,Dj,lt,o15,DF,e1,e2,e3,k3]
   first|exact sA _|exact⟨by simp,sA _⟩
  rw[if_neg (by omega)]
  have p6:(6≤op)=(6≤op):=rfl
  simp (maxDischargeDepth:=16) only[Af,↓Ae,simprocAttr,forall_const,nuE,fr.2,Cz,↓AK,↓AJ,Bn,Bu,CT,CV,DN,De,Dj,lt,eq_false o1,eq_false o2,eq_false o3,eq_false o16,eq_false o17,eq_false o4,eq_false o5,eq_false o15,DF,e1,e2,e3,k2,b2]
  all_goals repeat' split
  all_goals first|exact sA _|exact⟨by simp_all;try omega,sA _⟩
 | cons x l ihl=>
  obtain⟨ha,hlt,hd',htk⟩:=DH hd
  have lt:((e:Int)<(args.length:Int))=True:=eq_true (by omega)
  have li:((e:Int)<0)=False:=eq_false (by omega)
  have we:IntKind.i64.wrap ((e:Int)+1)=((e+1:Nat):Int):=by rw[Az (by omega) (by omega)];omega
  obtain⟨s,hs⟩: ∃s,rs[e]? =some s:=⟨_,List.getElem?_eq_getElem (by omega)⟩
  obtain⟨bk,off,cs,ty,fr0,hp0,hbk,hcr,hcc⟩:=hS.at hs
  subst hp0
  simp only[C8]at hcr
  obtain⟨q1,q2⟩:=BE f0 hbk
  refine At.intro (by kernel_rfl) ?_
  intro ν fr;have nuE:=And.intro (fr.mem (b:=n1) (by simp)) (fr.nu)
  have iv:=ih e x s ha hs ((n1,.cells #[.int .i64 op,.string nm,.string tx,.int .i64 n,.slice (some ⟨bk,off,none⟩) args.length cap] 36)::A) (SubA.fresh f0 (SubA.refl _))
  simp only[EG,C8]at iv
  cases hw:wX x with
  |true=>
   rw[hw]at iv
   simp (maxDischargeDepth:=16) only[Af,↓Ae,simprocAttr,forall_const,nuE,fr.2,Cz,↓AK,↓AJ,Bn,Bu,CT,CV,DN,De,Dj,lt,li,hbk,hcr,q1,q2,iv,we]
   have hc:(Cu op nm tx n args.length&&(x::l).all wX)=(Cu op nm tx n args.length&&l.all wX):=by simp[hw]
   rw[hc]
   exact At.weak (ihl (e+1) hd' (by omega)) (by simp only[Bo,Ag,Nat.reduceEqDiff,↓reduceIte,reduceCtorEq,Nat.reduceAdd,and_self,and_true]) (SubA.refl _)
  |false=>
   rw[hw]at iv
   simp (maxDischargeDepth:=16) only[Af,↓Ae,simprocAttr,forall_const,nuE,fr.2,Cz,↓AK,↓AJ,Bn,Bu,CT,CV,DN,De,Dj,lt,li,hbk,hcr,q1,q2,iv,we]
   exact⟨by simp[hw],SubA.fresh f0 (SubA.refl _)⟩
theorem rwrS_w(A:AH)(op n:Int)(nm tx:ByteArray)(args:List Xs)(p:Option Addr)(cap:Nat)(rs:List Xr)(hl:args.length≤140737488355328)(hrs:rs.length=args.length)(hS:E8 C8 5 A p rs)(htx:tx.size≤9223372036854775807)(ih: ∀(k:Nat) (x:Xs) (r:Xr),args[k]? =some x→rs[k]? =some r→ ∀B,SubA A B→Bi Tryz.prog 71 #[EG r] B=some (.bool (wX x)))(B_:AH)(hB_:SubA A B_):Bi Tryz.prog 71 #[.agg #[.int .i64 op,.string nm,.string tx,.int .i64 n,.slice p args.length cap]] B_=some (.bool (wX (.mk op nm tx n args))):=BP (Ce (by kernel_rfl) (uc A op n nm tx args p cap rs hl hrs hS htx ih) hB_)
theorem rwrX{A:AH}{t:Xs}{r:Xr}(h:ExR A t r):SzX t→ ∀B,SubA A B→Bi Tryz.prog 71 #[EG r] B=some (.bool (wX t)):=by
 induction h with
 | @mk op n nm tx args p cap rs h0 h0' h1 h2 h3 ih=>
  rintro(⟨z1,z2,z3⟩) B hB
  exact rwrS_w A op n nm tx args p cap rs h0 h1 h2 z2 (fun k x r hx hr C hC=>ih k x r hx hr (z3 x (List.mem_of_getElem? hx)) C hC) B hB
end Go.Proofs.YtfphceknmgadgaaGreatDoor
