/-
The scanner in memory.
Conditions: none.
-/
import Derived.Test.YtfphceknmgadgaaGreatDoorQa
import Derived.Test.YtfphceknmgadgaaGreatDoorVmAU
set_option linter.unusedSimpArgs false
set_option linter.unusedVariables false
namespace Go.Proofs.YtfphceknmgadgaaGreatDoor
open Go.Vm
set_option maxHeartbeats 2000000
set_option maxRecDepth 20000
theorem Jl:type_of% (An @BC (An @BU (An @BS (An @Aw (An @BB (An @BT (An @Bn (An @BN (An @CA (An @CS (An @B9 (An @CR (An @Cm (An @CT (An @CC (An @Bp (An @Bq (An @CQ (An @Be (An @Br (An @CB @Bo))))))))))))))))))))):=⟨@BC,@BU,@BS,@Aw,@BB,@BT,@Bn,@BN,@CA,@CS,@B9,@CR,@Cm,@CT,@CC,@Bp,@Bq,@CQ,@Be,@Br,@CB,@Bo⟩
def D2(lp:Option Addr)(lcap:Nat)(L:List LR)(i:Nat):Obj:=(Obj.cells #[.slice lp L.length lcap,.int .i64 (i:Int)] 150)
def tx(x:LR):ns:=x.t.toList
def Dl(x:LR):Value:=.agg #[.int .i64 x.k,.string x.t,.int .i64 x.n,.int .i64 x.a]
theorem AM.put{P:Program}{g:FuncId}{args:Array Value}{A K0:AH}{cb:Nat}{o o':Obj}{v:Value}{K:Value→AH→Prop}(hc:AM P g args ((cb,o)::A) fun u D=>u=v∧SubA ((cb,o')::A) D)(hs:SubA ((cb,o)::A) K0)
  (hk:K v ((cb,o')::A)):AM P g args K0 K:=
 AM.useX hc hs [] (SubA.nil _) (fun x hx=>absurd rfl hx) fun u D ⟨h1,h2⟩ _=>⟨(cb,o')::A,h2,by rw[List.append_nil,h1];exact hk⟩
theorem _root_.Go.Vm.SubA.swap{A:AH}{a b:Nat}{o u:Obj}(h:(a=b)=False):SubA ((a,o)::(b,u)::A) ((b,u)::(a,o)::A):=fun c v hl=>by
 simp only[Vm.AA]at hl⊢
 by_cases h1:a=c
 ·subst h1
  have: ¬b=a:=fun e=>by simp[e]at h
  simp only[this,if_false,if_true]at hl⊢
  exact hl
 ·simp only[h1,if_false]at hl⊢
  exact hl
theorem AK{A:AH}{cb b:Nat}{o:Obj}(h:(cb=b)=False)(ha:Vm.AA A b=none):Vm.AA ((cb,o)::A) b=none:=by simp only[Vm.AA,h,if_false];exact ha
theorem Ws(A:AH)(cb:Nat)(L:List LR)(lp:Option Addr)(lcap:Nat)(hn:Vm.AA A cb=none)(hL:ES LR.cells 4 A lp L)(i:Nat)(x:LR)(hx:L[i]? =some x):AM Tryz.prog 131 #[.pointer (some ⟨cb,0,none⟩)] ((cb,D2 lp lcap L i)::A) (fun u_ A_=>u_=Dl x∧SubA ((cb,D2 lp lcap L i)::A) A_):=by
 refine AR ⟨Tryz.prog,131,Tryz.f131,28,[0,2],⟨[],none⟩,[(1,.q false),(3,.p [(0,0),(1,0),(2,0),(3,0),(4,0),(5,0),(6,0),(7,0),(8,0),(9,0),(10,2)])],_⟩ rfl (args:=[_]) Tryz.func131 rfl (by kernel_rfl) Tryz.ntmps131 (by simp) (by kernel_rfl) ?_
 intro ν fr;have nuE:=fr.nu
 have f0:=fr.2 0
 obtain⟨m3,m4⟩:=BF f0 (show Vm.AA ((cb,D2 lp lcap L i)::A) cb=some (D2 lp lcap L i) by simp[Vm.AA])
 obtain⟨bk,off,cs,ty,fr0,hp0,hbk,hcr,hcc⟩:=hL.at hx
 have hlt:=(List.getElem?_eq_some_iff.1 hx).1
 have lt:((L.length:Int)≤(i:Int))=False:=eq_false (by omega)
 have lt2:((i:Int)<(L.length:Int))=True:=eq_true (by omega)
 have li:((i:Int)<0)=False:=eq_false (by omega)
 obtain⟨n1,n2⟩:=BF hn hbk
 have hbk2:Vm.AA ((cb,D2 lp lcap L i)::A) bk=some (.cells cs ty fr0):=by simp only[Vm.AA,n1,if_false];exact hbk
 obtain⟨m1,m2⟩:=BF f0 hbk2
 simp only[LR.cells]at hcr
 simp only[D2,Dl]
 simp (maxDischargeDepth:=16) only[AX,↓AW,simprocAttr,forall_const,nuE,fr.2,Jl,lt,lt2,li,hp0,hbk,hcr,n1,n2,m1,m2,m3,m4]
 exact SubA.skip (AK m4 ((SubA.skip hn (SubA.refl A)).none f0)) (SubA.refl _)
theorem P7(A:AH)(cb:Nat)(L:List LR)(lp:Option Addr)(lcap:Nat)(hn:Vm.AA A cb=none)(hL:ES LR.cells 4 A lp L)(i:Nat)(x:LR)(hx:L[i]? =some x)(B_:AH)(hB_:SubA ((cb,D2 lp lcap L i)::A) B_):B5 Tryz.prog 131 #[.pointer (some ⟨cb,0,none⟩)] B_=some (Dl x):=Bk (Ct (by kernel_rfl) (Ws A cb L lp lcap hn hL i x hx) hB_)
theorem LG(A:AH)(cb:Nat)(L:List LR)(lp:Option Addr)(lcap:Nat)(hn:Vm.AA A cb=none)(hL:ES LR.cells 4 A lp L)(i:Nat)(x:LR)(hx:L[i]? =some x):B5 Tryz.prog 131 #[.pointer (some ⟨cb,0,none⟩)] ((cb,D2 lp lcap L i)::A)=some (Dl x):=Bk (Ct (by kernel_rfl) (Ws A cb L lp lcap hn hL i x hx) (SubA.refl _))
def X7(L:List LR)(i:Nat):Nat:=if i+1<L.length then i+1 else i
theorem Ht(A:AH)(cb:Nat)(L:List LR)(lp:Option Addr)(lcap:Nat)(hn:Vm.AA A cb=none)(hL:ES LR.cells 4 A lp L)(hl:L.length≤100000)(i:Nat)(x:LR)(hx:L[i]? =some x):AM Tryz.prog 159 #[.pointer (some ⟨cb,0,none⟩)] ((cb,D2 lp lcap L i)::A) (fun u_ A_=>u_=Dl x∧SubA ((cb,D2 lp lcap L (X7 L i))::A) A_):=by
 refine AR ⟨Tryz.prog,159,Tryz.f159,29,[0,2,3],⟨[],none⟩,[(2,.q false)],_⟩ rfl (args:=[_]) Tryz.func159 rfl (by kernel_rfl) Tryz.ntmps159 (by simp) (by kernel_rfl) ?_
 intro ν fr;have nuE:=fr.nu
 have f0:=fr.2 0
 have pk:=fun o=>P7 A cb L lp lcap hn hL i x hx ((ν 0,o)::(cb,D2 lp lcap L i)::A) (SubA.fresh f0 (SubA.refl _))
 have hlt:=(List.getElem?_eq_some_iff.1 hx).1
 have we:IntKind.i64.wrap ((i:Int)+1)=((i+1:Nat):Int):=by rw[Ak (by omega) (by omega)];omega
 obtain⟨m3,m4⟩:=BF f0 (show Vm.AA ((cb,D2 lp lcap L i)::A) cb=some (D2 lp lcap L i) by simp[Vm.AA])
 have f1:Vm.AA ((cb,D2 lp lcap L i)::A) (ν 1)=none:=fr.2 1
 obtain⟨m5,m6⟩:=BF f1 (show Vm.AA ((cb,D2 lp lcap L i)::A) cb=some (D2 lp lcap L i) by simp[Vm.AA])
 have f2:Vm.AA ((cb,D2 lp lcap L i)::A) (ν 2)=none:=fr.2 2
 obtain⟨m7,m8⟩:=BF f2 (show Vm.AA ((cb,D2 lp lcap L i)::A) cb=some (D2 lp lcap L i) by simp[Vm.AA])
 have ha0:Vm.AA A (ν 0)=none:=(SubA.skip hn (SubA.refl A)).none f0
 have ha1:Vm.AA A (ν 1)=none:=(SubA.skip hn (SubA.refl A)).none f1
 simp only[D2,Dl]at pk⊢
 by_cases h:i+1<L.length
 ·have lt:(((i+1:Nat):Int)<(L.length:Int))=True:=eq_true (by omega)
  have hnx:X7 L i=i+1:=if_pos h
  rw[hnx]
  simp (maxDischargeDepth:=16) only[AX,↓AW,simprocAttr,forall_const,nuE,fr.2,Jl,pk,we,lt,m3,m4,m5,m6,m7,m8]
  exact SubA.skip (AK m6 ha1) (SubA.skip (AK m4 ha0) (SubA.refl _))
 ·have lt:(((i+1:Nat):Int)<(L.length:Int))=False:=eq_false (by omega)
  have hnx:X7 L i=i:=if_neg h
  rw[hnx]
  simp (maxDischargeDepth:=16) only[AX,↓AW,simprocAttr,forall_const,nuE,fr.2,Jl,pk,we,lt,m3,m4,m5,m6,m7,m8]
  exact SubA.skip (AK m6 ha1) (SubA.skip (AK m4 ha0) (SubA.refl _))
def BX(x:LR)(k:Int)(t:ByteArray):Bool:=decide (x.k=k)&&decide (x.t.toList=t.toList)
theorem Ot(A:AH)(cb:Nat)(L:List LR)(lp:Option Addr)(lcap:Nat)(hn:Vm.AA A cb=none)(hL:ES LR.cells 4 A lp L)(hl:L.length≤100000)(i:Nat)(x:LR)(hx:L[i]? =some x)(k:Int)(t:ByteArray):AM Tryz.prog 149 #[.pointer (some ⟨cb,0,none⟩),.int .i64 k,.string t] ((cb,D2 lp lcap L i)::A) (fun u_ A_=>u_=.bool (BX x k t)∧SubA ((cb,D2 lp lcap L (if BX x k t=true then X7 L i else i))::A) A_):=by
 refine AR ⟨Tryz.prog,149,Tryz.f149,22,[0,1,2,6,7],⟨[159],none⟩,[],_⟩ rfl (args:=[_,_,_]) Tryz.func149 rfl (by kernel_rfl) Tryz.ntmps149 (by simp) (by kernel_rfl) ?_
 intro ν fr;have nuE:=fr.nu
 have f0:=fr.2 0
 have pk:=LG A cb L lp lcap hn hL i x hx
 obtain⟨m3,m4⟩:=BF f0 (show Vm.AA ((cb,D2 lp lcap L i)::A) cb=some (D2 lp lcap L i) by simp[Vm.AA])
 have ha0:Vm.AA A (ν 0)=none:=(SubA.skip hn (SubA.refl A)).none f0
 have s0: ∀o,SubA ((cb,D2 lp lcap L i)::A) ((ν 0,o)::(cb,D2 lp lcap L i)::A):=fun o=>SubA.skip f0 (SubA.refl _)
 simp only[Dl]at pk
 by_cases h1:x.k=k
 ·have e1:(x.k !=k)=false:=by simp[h1]
  by_cases h2:x.t.toList=t.toList
  ·have hb:BX x k t=true:=by simp[BX,h1,h2]
   rw[hb,if_pos rfl]
   simp (maxDischargeDepth:=16) only[AX,↓AW,simprocAttr,forall_const,nuE,fr.2,Jl,pk,e1,eq_true h1,eq_true h2,m3,m4]
   refine AM.put (Ht A cb L lp lcap hn hL hl i x hx) (s0 _) ?_
   intro ν fr;have nuE:=And.intro (fr.mem (b:=cb) (by simp)) (fr.nu)
   simp (maxDischargeDepth:=16) only[AX,↓AW,simprocAttr,forall_const,nuE,fr.2,Jl]
  ·have hb:BX x k t=false:=by simp[BX,h1,h2]
   rw[hb,if_neg (by simp)]
   simp (maxDischargeDepth:=16) only[AX,↓AW,simprocAttr,forall_const,nuE,fr.2,Jl,pk,e1,eq_true h1,eq_false h2,m3,m4]
 ·have hb:BX x k t=false:=by simp[BX,h1]
  rw[hb,if_neg (by simp)]
  have e1:(x.k !=k)=true:=by simp[h1]
  simp (maxDischargeDepth:=16) only[AX,↓AW,simprocAttr,forall_const,nuE,fr.2,Jl,pk,e1,eq_false h1,m3,m4]
theorem VT(A:AH)(cb:Nat)(L:List LR)(lp:Option Addr)(lcap:Nat)(hn:Vm.AA A cb=none)(hL:ES LR.cells 4 A lp L)(hl:L.length≤100000)(i:Nat)(x:LR)(hx:L[i]? =some x)(t:ByteArray):AM Tryz.prog 134 #[.pointer (some ⟨cb,0,none⟩),.string t] ((cb,D2 lp lcap L i)::A) (fun u_ A_=>u_=.bool (BX x 1 t)∧SubA ((cb,D2 lp lcap L (if BX x 1 t=true then X7 L i else i))::A) A_):=by
 refine AR ⟨Tryz.prog,134,Tryz.f134,8,[0,1,4],⟨[149],none⟩,[],_⟩ rfl (args:=[_,_]) Tryz.func134 rfl (by kernel_rfl) Tryz.ntmps134 (by simp) (by kernel_rfl) ?_
 intro ν fr;have nuE:=fr.nu
 simp (maxDischargeDepth:=16) only[AX,↓AW,simprocAttr,forall_const,nuE,fr.2,Jl]
 refine AM.put (Ot A cb L lp lcap hn hL hl i x hx 1 t) (SubA.refl _) ?_
 intro ν fr;have nuE:=And.intro (fr.mem (b:=cb) (by simp)) (fr.nu)
 simp (maxDischargeDepth:=16) only[AX,↓AW,simprocAttr,forall_const,nuE,fr.2,Jl]
theorem Pl(A:AH)(cb:Nat)(L:List LR)(lp:Option Addr)(lcap:Nat)(hn:Vm.AA A cb=none)(hL:ES LR.cells 4 A lp L)(hl:L.length≤100000)(i:Nat)(x:LR)(hx:L[i]? =some x)(t:ByteArray):AM Tryz.prog 157 #[.pointer (some ⟨cb,0,none⟩),.string t] ((cb,D2 lp lcap L i)::A) (fun u_ A_=>u_=.bool (BX x 4 t)∧SubA ((cb,D2 lp lcap L (if BX x 4 t=true then X7 L i else i))::A) A_):=by
 refine AR ⟨Tryz.prog,157,Tryz.f157,8,[0,1,4],⟨[149],none⟩,[],_⟩ rfl (args:=[_,_]) Tryz.func157 rfl (by kernel_rfl) Tryz.ntmps157 (by simp) (by kernel_rfl) ?_
 intro ν fr;have nuE:=fr.nu
 simp (maxDischargeDepth:=16) only[AX,↓AW,simprocAttr,forall_const,nuE,fr.2,Jl]
 refine AM.put (Ot A cb L lp lcap hn hL hl i x hx 4 t) (SubA.refl _) ?_
 intro ν fr;have nuE:=And.intro (fr.mem (b:=cb) (by simp)) (fr.nu)
 simp (maxDischargeDepth:=16) only[AX,↓AW,simprocAttr,forall_const,nuE,fr.2,Jl]
set_option maxHeartbeats 2000000
set_option maxRecDepth 20000
theorem b7{h':AY}{base:Nat}{e:TypeId}{size:Nat}{v:Value}{n:Nat}{xs:List Value}(o:Dn h' base e size v n xs): ∃B,GF e size v B n xs∧DO B h'∧ ∀b,Vm.AA B b≠none→base≤b:=by
 unfold Dn World.ownsRow at o
 obtain⟨h1,⟨h2,h3⟩|⟨g,cap,cur,h2,h3,h4,h5⟩⟩:=o
 ·exact⟨[],⟨h1,.inl ⟨h2,rfl,h3⟩⟩,DO.nil _,fun b hb=>absurd rfl hb⟩
 ·refine⟨[(g,.cells cur e)],⟨h1,.inr ⟨g,cap,cur,h2,rfl,h5⟩⟩,fun b o hl=> ?_,fun b hb=> ?_⟩
  ·simp only[Vm.AA]at hl
   split at hl
   ·rename_i e1;subst e1;cases hl;exact h4
   ·cases hl
  ·simp only[Vm.AA]at hb
   split at hb
   ·rename_i e1;rw[←e1];exact h3
   ·exact absurd rfl hb
theorem Zy(A:AH)(s:ByteArray)(hs:s.size≤100000):AM Tryz.prog 18 #[.string s] A fun u D=> ∃v B,u=v∧(∃w,v=.tuple #[w,.int .i64 (AV s).1,.int .i64 ((AV s).2.1:Nat)]∧Cq LR.cells 4 51 w B (AV s).2.2)∧Dis B A∧SubA (B++A) D:=by
 intro h hA
 unfold E4
 rw[if_pos (by kernel_rfl)]
 refine(nq s hs h).mono0 ?_
 rintro r h' ⟨v,rfl,o,g⟩
 obtain⟨B,o2,sB,hb⟩:=b7 o
 have dB:Dis B A:=fun x hx=>by
  cases hl:Vm.AA A x with
  |none=>exact absurd hl hx
  |some ob=>
   have:=hA.lt hl
   cases hB:Vm.AA B x with
   |none=>rfl
   |some o3=>have:=hb x (by rw[hB];simp);omega
 refine⟨_,B++A,rfl,DO.both sB (hA.grew g),⟨g.le,fun b hlt hl=>⟨g.old b hlt,AJ ?_ hl⟩⟩,_,B,rfl,⟨v,rfl,.inl o2⟩,dB,SubA.refl _⟩
 cases hB:Vm.AA B b with
 |none=>rfl
 |some o3=>have:=hb b (by rw[hB];simp);omega
theorem Xn(s:ByteArray): ∀m i,(CW s m i).2.2.length≤m:=by
 intro m
 induction m with
 |zero=>intro i;simp[CW]
 | succ m ih=>
  intro i
  simp only[CW]
  split
  ·simp
  ·split
   ·simp
   ·split
    ·simp only[List.length_cons];have:=ih ((B0 s i).nx+Eg false (s.toList.drop (B0 s i).nx));omega
    ·simp
def Po(L:List LR):Prop:= ∀i x,L[i]? =some x→x.k≠0→i+1<L.length
theorem EO{s:ByteArray}(h0:(AV s).1=0): ∃K,(AV s).2.2=K++[GD s]∧(∀x∈K,ov x)∧s.size≤4000∧(AV s).2.2.length≤4001:=by
 have hh:=h0
 unfold AV at hh
 split at hh
 ·cases hh
 ·rename_i h4
  have sk:=FN s 0 (by omega)
  simp only[Nat.zero_add,List.drop_zero]at sk
  obtain⟨K,k1,k2,k3⟩:=Y2 s (s.size+1) (Eg false s.toList) (by omega) sk hh
  have hS:(AV s).2.2=K++[GD s]:=by unfold AV;rw[if_neg h4,k1]
  refine⟨K,hS,k2,by omega, ?_⟩
  have:=Xn s (s.size+1) (Eg false s.toList)
  unfold AV
  rw[if_neg h4]
  omega
theorem Jh{s:ByteArray}(h0:(AV s).1=0):Po (AV s).2.2:=by
 obtain⟨K,hS,_⟩:=EO h0
 rw[hS]
 intro i x hx hk
 have hi:=(List.getElem?_eq_some_iff.1 hx).1
 simp only[List.length_append,List.length_singleton]at hi⊢
 by_cases e:i<K.length
 ·omega
 ·rw[List.getElem?_append_right (by omega),show i - K.length=0 by omega]at hx
  simp at hx
  subst hx
  exact absurd rfl hk
def ra(A:AH)(s:ByteArray)(u:Value)(D:AH):Prop:=
 ((AV s).1≠0∧u=.tuple #[.pointer none,.int .i64 (AV s).1,.int .i64 ((AV s).2.1:Nat)]∧SubA A D)∨((AV s).1=0∧ ∃cb lp lcap B,u=.tuple #[.pointer (some ⟨cb,0,none⟩),.int .i64 0,.int .i64 0]∧ES LR.cells 4 B lp (AV s).2.2∧Sep [[(cb,D2 lp lcap (AV s).2.2 0)],B,A]∧SubA (cat [[(cb,D2 lp lcap (AV s).2.2 0)],B,A]) D)
theorem bm(A:AH)(s:ByteArray)(hs:s.size≤100000):AM Tryz.prog 129 #[.string s] A (fun u_ A_=>ra A s u_ A_):=by
 refine AR ⟨Tryz.prog,129,Tryz.f129,21,[0,2,3,4,5,6,7],⟨[18],none⟩,[],_⟩ rfl (args:=[_]) Tryz.func129 rfl (by kernel_rfl) Tryz.ntmps129 (by simp) (by kernel_rfl) ?_
 intro ν fr;have nuE:=fr.nu
 simp (maxDischargeDepth:=16) only[AX,↓AW,simprocAttr,forall_const,nuE,fr.2,Jl]
 refine AM.newX (Zy A s hs) (SubA.refl _) ?_
 rintro v B ⟨w,rfl,ho⟩ hd
 refine⟨_,SubA.refl _, ?_⟩
 clear nuE fr
 intro ν fr;have nuE:=fr.nu
 by_cases h0:(AV s).1=0
 ·obtain⟨p,cap,rfl,h1,h2⟩:=Cq.read (f:=LR.cells) (n:=4) (fun x=>rfl) ho
  have f0:Vm.AA (cat [B,A]) (ν 0)=none:=fr.2 0
  simp (maxDischargeDepth:=16) only[AX,↓AW,simprocAttr,forall_const,nuE,fr.2,Jl,h0]
  have sp:Sep [B,A]:=Sep.cons hd (Sep.one A)
  exact⟨ν 0,p,cap,B,rfl,h2,Sep.fresh f0 _ sp,SubA.refl _⟩
 ·simp (maxDischargeDepth:=16) only[AX,↓AW,simprocAttr,forall_const,nuE,fr.2,Jl,eq_false h0]
  exact hd.right
set_option maxHeartbeats 2000000
set_option maxRecDepth 20000
def BR(L:List LR)(i:Nat):LR:=L.getD i ⟨0,⟨#[]⟩,0,0,0,0⟩
theorem Ez{L:List LR}{i:Nat}{x:LR}(h:L[i]? =some x):BR L i=x:=by unfold BR;rw[List.getD_eq_getElem?_getD,h];rfl
theorem Fm{B X:AH}{x:Nat}{o:Obj}(h:Vm.AA B x=none)(d:Dis B X):Dis B ((x,o)::X):=fun b hb=>by
 simp only[Vm.AA]at hb
 by_cases e:x=b
 ·subst e;exact h
 ·rw[if_neg e]at hb;exact d b hb
theorem _root_.Go.Vm.Sep.hd{b:Nat}{o:Obj}{l:List AH}(h:Sep ([(b,o)]::l)):Vm.AA (cat l) b=none:=(Sep.dis h).symm b (by simp[Vm.AA])
theorem Bu{x:LR}{k:Int}{t:ByteArray}(h:BX x k t=true):x.k=k:=by simp only[BX,Bool.and_eq_true,decide_eq_true_eq]at h;exact h.1
theorem Sep.set: ∀{l:List AH} (i:Nat) (y:AH),Sep l→(∀b,Vm.AA (at_ l i) b=none→Vm.AA y b=none)→Sep (l.set i y)
 | [],_,_,h,_=>h
 |x::l,0,y,h,hy=>Sep.cons ((Sep.dis h).less hy) h.2
 | x::l,i+1,y,h,hy=>by
  refine⟨Hr.of fun z hz=> ?_,Sep.set i y h.2 hy⟩
  by_cases hi:i<l.length
  ·rcases List.mem_or_eq_of_mem_set hz with e|e
   ·exact h.1.all z e
   ·subst e
    exact((h.1.all _ (Py hi)).symm.less hy).symm
  ·rw[List.set_eq_of_length_le (by omega)]at hz
   exact h.1.all z hz
end Go.Proofs.YtfphceknmgadgaaGreatDoor
