/-
The scanner in memory.
Conditions: none.
-/
import Derived.Test.YtgmfcdeknaeikaaGreatDoorQa
import Derived.Test.YtgmfcdeknaeikaaGreatDoorVmAV
set_option linter.unusedSimpArgs false
set_option linter.unusedVariables false
namespace Go.Proofs.YtgmfcdeknaeikaaGreatDoor
open Go.Vm
set_option maxHeartbeats 2000000
set_option maxRecDepth 20000
def Dj(lp:Option Addr)(lcap:Nat)(L:List LR)(i:Nat):Obj:=(Obj.cells #[.slice lp L.length lcap,.int .i64 (i:Int)] 227)
def tx(x:LR):Gm:=x.t.toList
def DV(x:LR):Value:=.agg #[.int .i64 x.k,.string x.t,.int .i64 x.n,.int .i64 x.a]
theorem AK.put{P:Program}{g:FuncId}{args:Array Value}{A K0:AH}{cb:Nat}{o o':Obj}{v:Value}{K:Value→AH→Prop}(hc:AK P g args ((cb,o)::A) fun u D=>u=v∧SubA ((cb,o')::A) D)(hs:SubA ((cb,o)::A) K0)
  (hk:K v ((cb,o')::A)):AK P g args K0 K:=
 AK.useX hc hs [] (SubA.nil _) (fun x hx=>absurd rfl hx) fun u D ⟨h1,h2⟩ _=>⟨(cb,o')::A,h2,by rw[List.append_nil,h1];exact hk⟩
theorem _root_.Go.Vm.SubA.swap{A:AH}{a b:Nat}{o u:Obj}(h:(a=b)=False):SubA ((a,o)::(b,u)::A) ((b,u)::(a,o)::A):=fun c v hl=>by
 simp only[Vm.AA]at hl⊢
 by_cases h1:a=c
 ·subst h1
  have: ¬b=a:=fun e=>by simp[e]at h
  simp only[this,if_false,if_true]at hl⊢
  exact hl
 ·simp only[h1,if_false]at hl⊢
  exact hl
theorem AJ{A:AH}{cb b:Nat}{o:Obj}(h:(cb=b)=False)(ha:Vm.AA A b=none):Vm.AA ((cb,o)::A) b=none:=by simp only[Vm.AA,h,if_false];exact ha
theorem Ut(A:AH)(cb:Nat)(L:List LR)(lp:Option Addr)(lcap:Nat)(hn:Vm.AA A cb=none)(hL:B5 LR.cells 4 A lp L)(i:Nat)(x:LR)(hx:L[i]? =some x):AK Tryz.prog 145 #[.pointer (some ⟨cb,0,none⟩)] ((cb,Dj lp lcap L i)::A) (fun u_ A_=>u_=DV x∧SubA ((cb,Dj lp lcap L i)::A) A_):=by
 refine AC ⟨Tryz.prog,145,Tryz.f145,28,[0,2],⟨[],none⟩,[(1,.q false),(3,.p [(0,0),(1,0),(2,0),(3,0),(4,0),(5,0),(6,0),(7,0),(8,0),(9,0),(10,2)])],_⟩ rfl (args:=[_]) Tryz.func145 rfl (by kernel_rfl) Tryz.ntmps145 (by simp) (by kernel_rfl) ?_
 intro ν fr
 have f0:=fr.2 0
 obtain⟨m3,m4⟩:=AU f0 (show Vm.AA ((cb,Dj lp lcap L i)::A) cb=some (Dj lp lcap L i) by simp[Vm.AA])
 obtain⟨bk,off,cs,ty,fr0,hp0,hbk,hcr,hcc⟩:=hL.at hx
 have hlt:=(List.getElem?_eq_some_iff.1 hx).1
 have lt:((L.length:Int)≤(i:Int))=False:=eq_false (by omega)
 have lt2:((i:Int)<(L.length:Int))=True:=eq_true (by omega)
 have li:((i:Int)<0)=False:=eq_false (by omega)
 obtain⟨n1,n2⟩:=AU hn hbk
 have hbk2:Vm.AA ((cb,Dj lp lcap L i)::A) bk=some (.cells cs ty fr0):=by simp only[Vm.AA,n1,if_false];exact hbk
 obtain⟨m1,m2⟩:=AU f0 hbk2
 simp only[LR.cells]at hcr
 simp only[Dj,DV]
 simp only[AF,↓AE,simprocAttr,lt,lt2,hp0,hbk,hcr,n1,m1,m3]
 exact SubA.skip (AJ m4 ((SubA.skip hn (SubA.refl A)).none f0)) (SubA.refl _)
theorem Ov(A:AH)(cb:Nat)(L:List LR)(lp:Option Addr)(lcap:Nat)(hn:Vm.AA A cb=none)(hL:B5 LR.cells 4 A lp L)(i:Nat)(x:LR)(hx:L[i]? =some x)(B_:AH)(hB_:SubA ((cb,Dj lp lcap L i)::A) B_):Ag Tryz.prog 145 #[.pointer (some ⟨cb,0,none⟩)] B_=some (DV x):=AX (Aj (by kernel_rfl) (Ut A cb L lp lcap hn hL i x hx) hB_)
theorem LM(A:AH)(cb:Nat)(L:List LR)(lp:Option Addr)(lcap:Nat)(hn:Vm.AA A cb=none)(hL:B5 LR.cells 4 A lp L)(i:Nat)(x:LR)(hx:L[i]? =some x):Ag Tryz.prog 145 #[.pointer (some ⟨cb,0,none⟩)] ((cb,Dj lp lcap L i)::A)=some (DV x):=AX (Aj (by kernel_rfl) (Ut A cb L lp lcap hn hL i x hx) (SubA.refl _))
def Wg(L:List LR)(i:Nat):Nat:=if i+1<L.length then i+1 else i
theorem Jf(A:AH)(cb:Nat)(L:List LR)(lp:Option Addr)(lcap:Nat)(hn:Vm.AA A cb=none)(hL:B5 LR.cells 4 A lp L)(hl:L.length≤100000)(i:Nat)(x:LR)(hx:L[i]? =some x):AK Tryz.prog 194 #[.pointer (some ⟨cb,0,none⟩)] ((cb,Dj lp lcap L i)::A) (fun u_ A_=>u_=DV x∧SubA ((cb,Dj lp lcap L (Wg L i))::A) A_):=by
 refine AC ⟨Tryz.prog,194,Tryz.f194,29,[0,2,3],⟨[],none⟩,[(2,.q false)],_⟩ rfl (args:=[_]) Tryz.func194 rfl (by kernel_rfl) Tryz.ntmps194 (by simp) (by kernel_rfl) ?_
 intro ν fr;have nuE:=fr.nu
 have f0:=fr.2 0
 have pk:=fun o=>Ov A cb L lp lcap hn hL i x hx ((ν 0,o)::(cb,Dj lp lcap L i)::A) (SubA.fresh f0 (SubA.refl _))
 have hlt:=(List.getElem?_eq_some_iff.1 hx).1
 have we:IntKind.i64.wrap ((i:Int)+1)=((i+1:Nat):Int):=by rw[AW (by omega) (by omega)];omega
 obtain⟨m3,m4⟩:=AU f0 (show Vm.AA ((cb,Dj lp lcap L i)::A) cb=some (Dj lp lcap L i) by simp[Vm.AA])
 have f1:Vm.AA ((cb,Dj lp lcap L i)::A) (ν 1)=none:=fr.2 1
 obtain⟨m5,m6⟩:=AU f1 (show Vm.AA ((cb,Dj lp lcap L i)::A) cb=some (Dj lp lcap L i) by simp[Vm.AA])
 have f2:Vm.AA ((cb,Dj lp lcap L i)::A) (ν 2)=none:=fr.2 2
 obtain⟨m7,m8⟩:=AU f2 (show Vm.AA ((cb,Dj lp lcap L i)::A) cb=some (Dj lp lcap L i) by simp[Vm.AA])
 have ha0:Vm.AA A (ν 0)=none:=(SubA.skip hn (SubA.refl A)).none f0
 have ha1:Vm.AA A (ν 1)=none:=(SubA.skip hn (SubA.refl A)).none f1
 simp only[Dj,DV]at pk⊢
 by_cases h:i+1<L.length
 ·have lt:(((i+1:Nat):Int)<(L.length:Int))=True:=eq_true (by omega)
  have hnx:Wg L i=i+1:=if_pos h
  rw[hnx]
  simp only[AF,↓AE,simprocAttr,nuE,pk,we,lt,m3,m5]
  exact SubA.skip (AJ m6 ha1) (SubA.skip (AJ m4 ha0) (SubA.refl _))
 ·have lt:(((i+1:Nat):Int)<(L.length:Int))=False:=eq_false (by omega)
  have hnx:Wg L i=i:=if_neg h
  rw[hnx]
  simp only[AF,↓AE,simprocAttr,nuE,pk,we,lt,m3,m5]
  exact SubA.skip (AJ m6 ha1) (SubA.skip (AJ m4 ha0) (SubA.refl _))
def Aw(x:LR)(k:Int)(t:ByteArray):Bool:=decide (x.k=k)&&decide (x.t.toList=t.toList)
theorem NP(A:AH)(cb:Nat)(L:List LR)(lp:Option Addr)(lcap:Nat)(hn:Vm.AA A cb=none)(hL:B5 LR.cells 4 A lp L)(hl:L.length≤100000)(i:Nat)(x:LR)(hx:L[i]? =some x)(k:Int)(t:ByteArray):AK Tryz.prog 178 #[.pointer (some ⟨cb,0,none⟩),.int .i64 k,.string t] ((cb,Dj lp lcap L i)::A) (fun u_ A_=>u_=.bool (Aw x k t)∧SubA ((cb,Dj lp lcap L (if Aw x k t=true then Wg L i else i))::A) A_):=by
 refine AC ⟨Tryz.prog,178,Tryz.f178,22,[0,1,2,6,7],⟨[194],none⟩,[],_⟩ rfl (args:=[_,_,_]) Tryz.func178 rfl (by kernel_rfl) Tryz.ntmps178 (by simp) (by kernel_rfl) ?_
 intro ν fr
 have f0:=fr.2 0
 have pk:=LM A cb L lp lcap hn hL i x hx
 obtain⟨m3,m4⟩:=AU f0 (show Vm.AA ((cb,Dj lp lcap L i)::A) cb=some (Dj lp lcap L i) by simp[Vm.AA])
 have ha0:Vm.AA A (ν 0)=none:=(SubA.skip hn (SubA.refl A)).none f0
 have s0: ∀o,SubA ((cb,Dj lp lcap L i)::A) ((ν 0,o)::(cb,Dj lp lcap L i)::A):=fun o=>SubA.skip f0 (SubA.refl _)
 simp only[DV]at pk
 by_cases h1:x.k=k
 ·have e1:(x.k !=k)=false:=by simp[h1]
  by_cases h2:x.t.toList=t.toList
  ·have hb:Aw x k t=true:=by simp[Aw,h1,h2]
   rw[hb,if_pos rfl]
   simp only[AF,↓AE,simprocAttr,pk,e1,eq_true h2]
   refine AK.put (Jf A cb L lp lcap hn hL hl i x hx) (s0 _) ?_
   intro ν fr
   simp only[AF,↓AE,simprocAttr]
  ·have hb:Aw x k t=false:=by simp[Aw,h1,h2]
   rw[hb,if_neg (by simp)]
   simp only[AF,↓AE,simprocAttr,fr.2,pk,e1,eq_false h2,m3]
 ·have hb:Aw x k t=false:=by simp[Aw,h1]
  rw[hb,if_neg (by simp)]
  have e1:(x.k !=k)=true:=by simp[h1]
  simp only[AF,↓AE,simprocAttr,fr.2,pk,e1,m3]
theorem VQ(A:AH)(cb:Nat)(L:List LR)(lp:Option Addr)(lcap:Nat)(hn:Vm.AA A cb=none)(hL:B5 LR.cells 4 A lp L)(hl:L.length≤100000)(i:Nat)(x:LR)(hx:L[i]? =some x)(t:ByteArray):AK Tryz.prog 148 #[.pointer (some ⟨cb,0,none⟩),.string t] ((cb,Dj lp lcap L i)::A) (fun u_ A_=>u_=.bool (Aw x 1 t)∧SubA ((cb,Dj lp lcap L (if Aw x 1 t=true then Wg L i else i))::A) A_):=by
 refine AC ⟨Tryz.prog,148,Tryz.f148,8,[0,1,4],⟨[178],none⟩,[],_⟩ rfl (args:=[_,_]) Tryz.func148 rfl (by kernel_rfl) Tryz.ntmps148 (by simp) (by kernel_rfl) ?_
 intro ν fr
 simp only[AF,↓AE,simprocAttr]
 refine AK.put (NP A cb L lp lcap hn hL hl i x hx 1 t) (SubA.refl _) ?_
 intro ν fr
 simp only[AF,↓AE,simprocAttr]
theorem Ol(A:AH)(cb:Nat)(L:List LR)(lp:Option Addr)(lcap:Nat)(hn:Vm.AA A cb=none)(hL:B5 LR.cells 4 A lp L)(hl:L.length≤100000)(i:Nat)(x:LR)(hx:L[i]? =some x)(t:ByteArray):AK Tryz.prog 192 #[.pointer (some ⟨cb,0,none⟩),.string t] ((cb,Dj lp lcap L i)::A) (fun u_ A_=>u_=.bool (Aw x 4 t)∧SubA ((cb,Dj lp lcap L (if Aw x 4 t=true then Wg L i else i))::A) A_):=by
 refine AC ⟨Tryz.prog,192,Tryz.f192,8,[0,1,4],⟨[178],none⟩,[],_⟩ rfl (args:=[_,_]) Tryz.func192 rfl (by kernel_rfl) Tryz.ntmps192 (by simp) (by kernel_rfl) ?_
 intro ν fr
 simp only[AF,↓AE,simprocAttr]
 refine AK.put (NP A cb L lp lcap hn hL hl i x hx 4 t) (SubA.refl _) ?_
 intro ν fr
 simp only[AF,↓AE,simprocAttr]
theorem nD{h':AL}{base:Nat}{e:TypeId}{size:Nat}{v:Value}{n:Nat}{xs:List Value}(o:Du h' base e size v n xs): ∃B,Ea e size v B n xs∧CQ B h'∧ ∀b,Vm.AA B b≠none→base≤b:=by
 unfold Du World.ownsRow at o
 obtain⟨h1,⟨h2,h3⟩|⟨g,cap,cur,h2,h3,h4,h5⟩⟩:=o
 ·exact⟨[],⟨h1,.inl ⟨h2,rfl,h3⟩⟩,CQ.nil _,fun b hb=>absurd rfl hb⟩
 ·refine⟨[(g,.cells cur e)],⟨h1,.inr ⟨g,cap,cur,h2,rfl,h5⟩⟩,fun b o hl=> ?_,fun b hb=> ?_⟩
  ·simp only[Vm.AA]at hl
   split at hl
   ·rename_i e1;subst e1;cases hl;exact h4
   ·cases hl
  ·simp only[Vm.AA]at hb
   split at hb
   ·rename_i e1;rw[←e1];exact h3
   ·exact absurd rfl hb
theorem cY(A:AH)(s:ByteArray)(hs:s.size≤100000):AK Tryz.prog 23 #[.string s] A fun u D=> ∃v B,u=v∧(∃w,v=.tuple #[w,.int .i64 (AG s).1,.int .i64 ((AG s).2.1:Nat)]∧BU LR.cells 4 85 w B (AG s).2.2)∧Dis B A∧SubA (B++A) D:=by
 intro h hA
 unfold Di
 rw[if_pos (by kernel_rfl)]
 refine(nr s hs h).mono0 ?_
 rintro r h' ⟨v,rfl,o,g⟩
 obtain⟨B,o2,sB,hb⟩:=nD o
 have dB:Dis B A:=fun x hx=>by
  cases hl:Vm.AA A x with
  |none=>exact absurd hl hx
  |some ob=>
   have:=hA.lt hl
   cases hB:Vm.AA B x with
   |none=>rfl
   |some o3=>have:=hb x (by rw[hB];simp);omega
 refine⟨_,B++A,rfl,CQ.both sB (hA.grew g),⟨g.le,fun b hlt hl=>⟨g.old b hlt,AD ?_ hl⟩⟩,_,B,rfl,⟨v,rfl,.inl o2⟩,dB,SubA.refl _⟩
 cases hB:Vm.AA B b with
 |none=>rfl
 |some o3=>have:=hb b (by rw[hB];simp);omega
theorem Xh(s:ByteArray): ∀m i,(A9 s m i).2.2.length≤m:=by
 intro m
 induction m with
 |zero=>intro i;simp[A9]
 | succ m ih=>
  intro i
  simp only[A9]
  split
  ·simp
  ·split
   ·simp
   ·split
    ·simp only[List.length_cons];have:=ih ((Al s i).nx+Bi false (s.toList.drop (Al s i).nx));omega
    ·simp
def eT(L:List LR):Prop:= ∀i x,L[i]? =some x→x.k≠0→i+1<L.length
theorem DY{s:ByteArray}(h0:(AG s).1=0): ∃K,(AG s).2.2=K++[DS s]∧(∀x∈K,JG x)∧s.size≤4000∧(AG s).2.2.length≤4001:=by
 have hh:=h0
 unfold AG at hh
 split at hh
 ·cases hh
 ·rename_i h4
  have sk:=Fd s 0 (by omega)
  simp only[Nat.zero_add,List.drop_zero]at sk
  obtain⟨K,k1,k2,k3⟩:=cX s (s.size+1) (Bi false s.toList) (by omega) sk hh
  have hS:(AG s).2.2=K++[DS s]:=by unfold AG;rw[if_neg h4,k1]
  refine⟨K,hS,k2,by omega, ?_⟩
  have:=Xh s (s.size+1) (Bi false s.toList)
  unfold AG
  rw[if_neg h4]
  omega
theorem Q4{s:ByteArray}(h0:(AG s).1=0):eT (AG s).2.2:=by
 obtain⟨K,hS,_⟩:=DY h0
 rw[hS]
 intro i x hx hk
 have hi:=(List.getElem?_eq_some_iff.1 hx).1
 simp only[List.length_append,List.length_singleton]at hi⊢
 by_cases e:i<K.length
 ·omega
 ·rw[List.getElem?_append_right (by omega),show i - K.length=0 by omega]at hx
  simp at hx
  subst hx
  exact absurd rfl hk
def ui(A:AH)(s:ByteArray)(u:Value)(D:AH):Prop:=
 ((AG s).1≠0∧u=.tuple #[.pointer none,.int .i64 (AG s).1,.int .i64 ((AG s).2.1:Nat)]∧SubA A D)∨((AG s).1=0∧ ∃cb lp lcap B,u=.tuple #[.pointer (some ⟨cb,0,none⟩),.int .i64 0,.int .i64 0]∧B5 LR.cells 4 B lp (AG s).2.2∧Sep [[(cb,Dj lp lcap (AG s).2.2 0)],B,A]∧SubA (cat [[(cb,Dj lp lcap (AG s).2.2 0)],B,A]) D)
theorem al(A:AH)(s:ByteArray)(hs:s.size≤100000):AK Tryz.prog 143 #[.string s] A (fun u_ A_=>ui A s u_ A_):=by
 refine AC ⟨Tryz.prog,143,Tryz.f143,21,[0,2,3,4,5,6,7],⟨[23],none⟩,[],_⟩ rfl (args:=[_]) Tryz.func143 rfl (by kernel_rfl) Tryz.ntmps143 (by simp) (by kernel_rfl) ?_
 intro ν fr
 simp only[AF,↓AE,simprocAttr]
 refine AK.newX (cY A s hs) (SubA.refl _) ?_
 rintro v B ⟨w,rfl,ho⟩ hd
 refine⟨_,SubA.refl _, ?_⟩
 clear fr
 intro ν fr
 by_cases h0:(AG s).1=0
 ·obtain⟨p,cap,rfl,h1,h2⟩:=BU.read (f:=LR.cells) (n:=4) (fun x=>rfl) ho
  have f0:Vm.AA (cat [B,A]) (ν 0)=none:=fr.2 0
  simp only[AF,↓AE,simprocAttr,h0]
  have sp:Sep [B,A]:=Sep.cons hd (Sep.one A)
  exact⟨ν 0,p,cap,B,rfl,h2,Sep.fresh f0 _ sp,SubA.refl _⟩
 ·simp only[AF,↓AE,simprocAttr,eq_false h0]
  exact hd.right
def Af(L:List LR)(i:Nat):LR:=L.getD i ⟨0,⟨#[]⟩,0,0,0,0⟩
theorem Eo{L:List LR}{i:Nat}{x:LR}(h:L[i]? =some x):Af L i=x:=by unfold Af;rw[List.getD_eq_getElem?_getD,h];rfl
theorem Fz{B X:AH}{x:Nat}{o:Obj}(h:Vm.AA B x=none)(d:Dis B X):Dis B ((x,o)::X):=fun b hb=>by
 simp only[Vm.AA]at hb
 by_cases e:x=b
 ·subst e;exact h
 ·rw[if_neg e]at hb;exact d b hb
theorem _root_.Go.Vm.Sep.hd{b:Nat}{o:Obj}{l:List AH}(h:Sep ([(b,o)]::l)):Vm.AA (cat l) b=none:=(Sep.dis h).symm b (by simp[Vm.AA])
theorem B0{x:LR}{k:Int}{t:ByteArray}(h:Aw x k t=true):x.k=k:=by simp only[Aw,Bool.and_eq_true,decide_eq_true_eq]at h;exact h.1
theorem Sep.set: ∀{l:List AH} (i:Nat) (y:AH),Sep l→(∀b,Vm.AA (at_ l i) b=none→Vm.AA y b=none)→Sep (l.set i y)
 | [],_,_,h,_=>h
 |x::l,0,y,h,hy=>Sep.cons ((Sep.dis h).less hy) h.2
 | x::l,i+1,y,h,hy=>by
  refine⟨JK.of fun z hz=> ?_,Sep.set i y h.2 hy⟩
  by_cases hi:i<l.length
  ·rcases List.mem_or_eq_of_mem_set hz with e|e
   ·exact h.1.all z e
   ·subst e
    exact((h.1.all _ (OJ hi)).symm.less hy).symm
  ·rw[List.set_eq_of_length_le (by omega)]at hz
   exact h.1.all z hz
end Go.Proofs.YtgmfcdeknaeikaaGreatDoor
