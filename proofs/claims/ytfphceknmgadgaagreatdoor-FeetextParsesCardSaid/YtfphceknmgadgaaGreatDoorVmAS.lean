/-
The second evaluator is sound: what it says of the known blocks the first one says of every heap that fits.
Conditions: none. Generic: it speaks of no program.
-/
import Derived.Test.YtfphceknmgadgaaGreatDoorVmA
set_option linter.unusedSimpArgs false
set_option linter.unusedVariables false
namespace Go.Vm
theorem DO.nil(h:AY):DO [] h:=fun _ _ hb=>by cases hb
theorem DO.none_of_size{A:AH}{h:AY}(hs:DO A h){b:Nat}(hb:h.size≤b):AA A b=none:=by
 cases hl:AA A b with
 |none=>rfl
 |some o=>have:=hs b o hl;rw[Array.getElem?_eq_none hb]at this;cases this
theorem DO.lt{A:AH}{h:AY}(hs:DO A h){b:Nat}{o:Obj}(hl:AA A b=some o):b<h.size:=by
 have:=hs b o hl
 rcases Nat.lt_or_ge b h.size with h1|h1
 ·exact h1
 ·rw[Array.getElem?_eq_none h1]at this;cases this
theorem DO.grew{A:AH}{h h':AY}(hs:DO A h)(g:Grew h h'):DO A h':=fun b o hl=>g.get (hs b o hl)
theorem DO.ex(A:AH): ∃h,DO A h:=by
 have hN: ∃N,∀b o,AA A b=some o→b<N:=by
  induction A with
  |nil=>exact⟨0,fun b o h=>by cases h⟩
  |cons p A ih=>
   obtain⟨N,hN⟩:=ih
   refine⟨max N (p.1+1),fun b o h=> ?_⟩
   simp only[AA]at h
   split at h
   ·omega
   ·have:=hN b o h;omega
 obtain⟨N,hN⟩:=hN
 refine⟨(Array.range N).map fun i=>(AA A i).getD (.cells #[] 0),fun b o hl=> ?_⟩
 have hb:=hN b o hl
 simp[hb,hl]
theorem Ca.refl(A:AH)(h:AY):Ca A h A h:=⟨Nat.le_refl _,fun _ _ hl=>⟨rfl,hl⟩⟩
theorem Ca.trans{A B C:AH}{h1 h2 h3:AY}(k1:Ca A h1 B h2)(k2:Ca B h2 C h3):Ca A h1 C h3:=⟨Nat.le_trans k1.1 k2.1,fun b hb hl=>by
 obtain⟨e1,l1⟩:=k1.2 b hb hl
 obtain⟨e2,l2⟩:=k2.2 b (Nat.lt_of_lt_of_le hb k1.1) l1
 exact⟨e2.trans e1,l2⟩⟩
theorem Ca.grew{A:AH}{h h':AY}(g:Grew h h'):Ca A h A h':=⟨g.le,fun b hb hl=>⟨g.old b hb,hl⟩⟩
theorem Ca.to_grew{h h':AY}{A':AH}(k:Ca [] h A' h'):Grew h h':=⟨k.1,fun b hb=>(k.2 b hb rfl).1⟩
theorem SubA.refl(A:AH):SubA A A:=fun _ _ h=>h
theorem SubA.none{A' A:AH}(hs:SubA A' A){b:Nat}(h:AA A b=none):AA A' b=none:=by
 cases hl:AA A' b with
 |none=>rfl
 |some o=>rw[hs b o hl]at h;cases h
theorem DO.sub{A' A:AH}{h:AY}(hs:SubA A' A)(hA:DO A h):DO A' h:=fun b o hl=>hA b o (hs b o hl)
theorem Ca.sub{A B B':AH}{h h':AY}(k:Ca A h B h')(hs:SubA B' B):Ca A h B' h':=⟨k.1,fun b hb hl=>⟨(k.2 b hb hl).1,hs.none (k.2 b hb hl).2⟩⟩
theorem Em(A:AH)(x:Nat)(u:Obj)(b:Nat):AA (Fy A x u) b=if b=x then(AA A b).map fun _=>u else AA A b:=by
 induction A with
 |nil=>simp[Fy,AA]
 | cons p A ih=>
  simp only[Fy]
  split
  ·rename_i e
   subst e
   simp only[AA]
   by_cases hb:p.1=b
   ·simp[hb]
   ·have: ¬b=p.1:=fun e=>hb e.symm
    simp[hb,this]
  ·rename_i e
   simp only[AA,ih]
   by_cases hb:p.1=b
   ·subst hb;simp[e]
   ·simp[hb]
theorem Ek{o:Option Obj}{i n:Nat}{c:Array Value}(h:D0 o i n=some c): ∃cs e fr,o=some (.cells cs e fr):=by
 unfold D0 at h
 split at h
 ·exact⟨_,_,_,rfl⟩
 ·cases h
theorem Tz{o:Option Obj}{i:Nat}{v:Value}(h:MN o i=some v): ∃cs e fr,o=some (.cells cs e fr):=by
 unfold MN at h
 split at h
 ·exact⟨_,_,_,rfl⟩
 ·cases h
theorem J4{P:Program}{A:AH}{h:AY}(hs:DO A h){t:TypeId}{a:Addr}{v:Value}(hr:Ep P A t a=some v):JW P h t a=some v:=by
 obtain⟨b,off,spot⟩:=a
 unfold Ep rC at hr
 unfold JW
 split at hr
 ·rename_i n hsh
  rw[hsh]
  simp only at hr⊢
  split at hr
  ·rename_i e
   subst e
   unfold Gj at hr
   split at hr
   ·rename_i c hc
    obtain⟨cs,e,fr,ho⟩:=Ek hc
    rw[HQ,hs _ _ ho,←ho,hc]
    exact hr
   ·cases hr
  ·cases hr
 ·rename_i n hsh
  rw[hsh]
  simp only at hr⊢
  split at hr
  ·rename_i e
   subst e
   obtain⟨cs,e,fr,ho⟩:=Tz hr
   rw[M5,hs _ _ ho,←ho]
   exact hr
  ·cases hr
 ·cases hr
theorem GW{P:Program}{A:AH}{h:AY}{ρ:Ba}(hs:DO A h): ∀{rs:List ResultVar} {vs:List Value},F7 P ρ A rs=some vs→JB P ρ h rs=some vs
 | [],vs,hr=>by simpa[F7,JB]using hr
 | r::rs,vs,hr=>by
  simp only[F7]at hr
  simp only[JB]
  have h1: ∀{v},Mk P ρ A r=some v→P5 P ρ h r=some v:=by
   intro v hv
   cases r with
   |tmp t=>exact hv
   |cell s ty=>
    simp only[Mk]at hv
    simp only[P5,qU]
    split at hv
    ·rename_i a ha;rw[ha];exact J4 hs hv
    ·cases hv
  cases hr1:Mk P ρ A r with
  |none=>simp[hr1,Dy]at hr
  | some v=>cases hl:F7 P ρ A rs with
   |none=>simp[hr1,hl,Dy]at hr
   |some us=>
    rw[h1 hr1,GW hs hl]
    simpa[hr1,hl]using hr
theorem Ad{α:Type}{o:Option α}{v:α}(h:o=some v)(K:α→Prop):Ay o K↔K v:=by subst h;exact Iff.rfl
theorem DH{c K:Prop}(h:c):Bf c K↔K:=⟨fun x=>x.2,fun x=>⟨h,x⟩⟩
theorem eF{P:Program}{op:BinOp}{t:TypeId}{x y:Value}{K0:Value→Prop}(h:Cg P op t x y K0): ∃v,∀K:Value→Prop,Cg P op t x y K↔K v:=by
 unfold Cg at h
 split at h
 ·split at h
  all_goals first
   |(obtain⟨rfl,_⟩:=h;exact⟨_,fun K=>by simp only[Cg,Bf,true_and]⟩)
   |(obtain⟨⟨rfl,hb⟩,_⟩:=h;exact⟨_,fun K=>by simp only[Cg,Bf,true_and];exact⟨fun q=>q.2,fun q=>⟨hb,q⟩⟩⟩)
   |(obtain⟨hb,_⟩:=h;exact⟨_,fun K=>by simp only[Cg,Bf];exact⟨fun q=>q.2,fun q=>⟨hb,q⟩⟩⟩)
 ·split at h
  all_goals first
   |exact h.elim
   |(obtain⟨hb,_⟩:=h;exact⟨_,fun K=>by simp only[Cg,Bf];exact⟨fun q=>q.2,fun q=>⟨hb,q⟩⟩⟩)
   |exact⟨_,fun K=>Iff.rfl⟩
 ·rename_i n1 n2
  split at h
  ·obtain⟨h1,h2⟩:=h
   obtain⟨b,hb,_⟩:=AB h2
   refine⟨.bool b,fun K=> ?_⟩
   have e:Cg P .eql t x y K=Bf (D7 P t x y=true) (Ay (He P 10000 t x y) fun b=>K (.bool b)):=by
    unfold Cg
    split
    ·exact(n1 _ _ _ _ rfl rfl).elim
    ·exact(n2 _ _ rfl rfl).elim
    ·rfl
   rw[e,DH h1,Ad hb]
  ·obtain⟨h1,h2⟩:=h
   obtain⟨b,hb,_⟩:=AB h2
   refine⟨.bool (!b),fun K=> ?_⟩
   have e:Cg P .neq t x y K=Bf (D7 P t x y=true) (Ay (He P 10000 t x y) fun b=>K (.bool (!b))):=by
    unfold Cg
    split
    ·exact(n1 _ _ _ _ rfl rfl).elim
    ·exact(n2 _ _ rfl rfl).elim
    ·rfl
   rw[e,DH h1,Ad hb]
  ·exact h.elim
theorem cS{P:Program}{t:TypeId}{x i:Value}{K0:Value→Prop}(h:NH P t x i K0): ∃v,∀K:Value→Prop,NH P t x i K↔K v:=by
 unfold NH at h
 split at h
 ·obtain⟨h1,h2⟩:=h
  obtain⟨b,hb,_⟩:=AB h2
  exact⟨_,fun K=>by simp only[NH];rw[DH h1,Ad hb]⟩
 ·split at h
  ·rename_i len e hu
   obtain⟨h1,h2⟩:=h
   obtain⟨s,hs,h2⟩:=AB h2
   obtain⟨v,hv,_⟩:=AB h2
   exact⟨v,fun K=>by simp only[NH,hu];rw[DH h1,Ad hs,Ad hv]⟩
  ·exact h.elim
 ·exact h.elim
theorem bQ{P:Program}{t:TypeId}{x i:Value}{K0:Value→Prop}(h:NF P t x i K0): ∃v,∀K:Value→Prop,NF P t x i K↔K v:=by
 unfold NF at h
 split at h
 ·obtain⟨e,he,h1⟩:=AB h
  exact⟨_,fun K=>by simp only[NF];rw[Ad he,DH h1.1]⟩
 ·split at h
  ·rename_i len e hu
   obtain⟨s,hs,h1⟩:=AB h
   exact⟨_,fun K=>by simp only[NF,hu];rw[Ad hs,DH h1.1]⟩
  ·exact h.elim
 ·exact h.elim
theorem fY{P:Program}{t:TypeId}{x:Value}{lo hi:Option Value}{K0:Value→Prop}(h:bA P t x lo hi K0): ∃v,∀K:Value→Prop,bA P t x lo hi K↔K v:=by
 unfold bA at h
 split at h
 ·obtain⟨l,hl,h⟩:=AB h
  obtain⟨r,hr,h⟩:=AB h
  exact⟨_,fun K=>by simp only[bA];rw[Ad hl,Ad hr,DH h.1]⟩
 ·obtain⟨e,he,h⟩:=AB h
  obtain⟨l,hl,h⟩:=AB h
  obtain⟨r,hr,h⟩:=AB h
  exact⟨_,fun K=>by simp only[bA];rw[Ad he,Ad hl,Ad hr,DH h.1]⟩
 ·exact h.elim
theorem cg{P:Program}{t:TypeId}{x mx:Value}{lo hi:Option Value}{K0:Value→Prop}(h:NB P t x lo hi mx K0): ∃v,∀K:Value→Prop,NB P t x lo hi mx K↔K v:=by
 unfold NB at h
 split at h
 ·obtain⟨e,he,h⟩:=AB h
  obtain⟨l,hl,h⟩:=AB h
  obtain⟨r,hr,h⟩:=AB h
  obtain⟨m,hm,h⟩:=AB h
  exact⟨_,fun K=>by simp only[NB];rw[Ad he,Ad hl,Ad hr,Ad hm,DH h.1]⟩
 ·exact h.elim
theorem l7{P:Program}{op:Op}{ty:TypeId}{ρ:Ba}{h0:AY}{K0:Value→AY→Prop}(hq:J8 P op=true)(hnc: ∀s d x,op≠ .convert s d x)(hp:HL P op ty ρ h0 K0):
  ∃v,∀(h:AY) (K:Value→AY→Prop),HL P op ty ρ h K↔K v h:=by
 unfold HL at hp
 split at hp
 ·obtain⟨v,hv,_⟩:=AB hp
  exact⟨v,fun h K=>by simp only[HL];rw[Ad hv]⟩
 ·obtain⟨v,hv,_⟩:=AB hp
  exact⟨v,fun h K=>by simp only[HL];rw[Ad hv]⟩
 ·obtain⟨v,hv,hp⟩:=AB hp
  unfold QG at hp
  split at hp
  ·rename_i b
   cases b with
   |true=>
    obtain⟨u,hu,_⟩:=AB (hp.1 rfl)
    exact⟨u,fun h K=>by simp only[HL];rw[Ad hv];simp only[QG,La];rw[Ad hu]⟩
   |false=>
    obtain⟨u,hu,_⟩:=AB (hp.2 rfl)
    exact⟨u,fun h K=>by simp only[HL];rw[Ad hv];simp only[QG,J6];rw[Ad hu]⟩
  ·exact hp.elim
 ·cases hq
 ·cases hq
 ·obtain⟨vs,hv,hp⟩:=AB hp
  obtain⟨v,hb,_⟩:=AB hp
  exact⟨v,fun h K=>by simp only[HL];rw[Ad hv,Ad hb]⟩
 ·cases hq
 ·cases hq
 ·cases hq
 ·obtain⟨p,hp1,hp⟩:=AB hp
  obtain⟨ad,ha,_⟩:=AB hp
  exact⟨p,fun h K=>by simp only[HL];rw[Ad hp1,Ad ha]⟩
 ·obtain⟨u,hu,hp⟩:=AB hp
  obtain⟨v,hv,hp⟩:=AB hp
  obtain⟨r,hr⟩:=eF hp
  exact⟨r,fun h K=>by simp only[HL];rw[Ad hu,Ad hv,hr]⟩
 ·obtain⟨v,hv,hp⟩:=AB hp
  obtain⟨u,hu,_⟩:=AB hp
  exact⟨u,fun h K=>by simp only[HL];rw[Ad hv,Ad hu]⟩
 ·exact absurd rfl (hnc _ _ _)
 ·obtain⟨v,hv,hp⟩:=AB hp
  exact⟨_,fun h K=>by simp only[HL];rw[Ad hv,DH hp.1]⟩
 ·obtain⟨us,hu,hp⟩:=AB hp
  obtain⟨vs,hv,_⟩:=AB hp
  exact⟨_,fun h K=>by simp only[HL];rw[Ad hu,Ad hv]⟩
 ·cases hq
 ·cases hq
 ·obtain⟨v,hv,hp⟩:=AB hp
  obtain⟨l,hl,hp⟩:=AB hp
  obtain⟨r,hr,hp⟩:=AB hp
  obtain⟨u,hu⟩:=fY hp
  exact⟨u,fun h K=>by simp only[HL];rw[Ad hv,Ad hl,Ad hr,hu]⟩
 ·obtain⟨v,hv,hp⟩:=AB hp
  obtain⟨l,hl,hp⟩:=AB hp
  obtain⟨r,hr,hp⟩:=AB hp
  obtain⟨mv,hm,hp⟩:=AB hp
  obtain⟨u,hu⟩:=cg hp
  exact⟨u,fun h K=>by simp only[HL];rw[Ad hv,Ad hl,Ad hr,Ad hm,hu]⟩
 ·obtain⟨p,hp1,hp⟩:=AB hp
  obtain⟨ad,ha,hp⟩:=AB hp
  obtain⟨f,hf,hp⟩:=AB hp
  exact⟨_,fun h K=>by simp only[HL];rw[Ad hp1,Ad ha,Ad hf,DH hp.1]⟩
 ·obtain⟨v,hv,hp⟩:=AB hp
  obtain⟨u,hu,_⟩:=AB hp
  exact⟨u,fun h K=>by simp only[HL];rw[Ad hv,Ad hu]⟩
 ·obtain⟨v,hv,hp⟩:=AB hp
  obtain⟨i,hi,hp⟩:=AB hp
  obtain⟨u,hu⟩:=bQ hp
  exact⟨u,fun h K=>by simp only[HL];rw[Ad hv,Ad hi,hu]⟩
 ·obtain⟨v,hv,hp⟩:=AB hp
  obtain⟨i,hi,hp⟩:=AB hp
  obtain⟨u,hu⟩:=cS hp
  exact⟨u,fun h K=>by simp only[HL];rw[Ad hv,Ad hi,hu]⟩
 ·cases hq
 ·cases hq
 ·cases hq
 ·cases hq
 ·cases hq
 ·cases hq
 ·obtain⟨v,hv,hp⟩:=AB hp
  clear hp
  rename_i hp
  obtain⟨v,hv,hp⟩:=AB hp
  split at hp
  ·obtain⟨u,hu,_⟩:=AB hp
   exact⟨u,fun h K=>by simp only[HL];rw[Ad hv];simp only;rw[Ad hu]⟩
  ·exact hp.elim
 ·cases hq
 ·exact hp.elim
structure St(ν:Nu)(n:Nat)(A:AH)(h:AY):Prop where
 sat:DO A h
 inj:Pp ν
 old: ∀i,i<n→ν i<h.size
def DK(ν:Nu)(n:Nat)(A:AH)(G:Nu→Prop):Prop:= ∀ν',Pp ν'→(∀i,i<n→ν' i=ν i)→(∀i,n≤i→AA A (ν' i)=none)→G ν'
def nuAt(ν:Nu)(n N:Nat):Nu:=fun i=>if i<n then ν i else N+(i - n)
theorem St.nuAt{ν:Nu}{n:Nat}{A:AH}{h:AY}(s:St ν n A h):Pp (nuAt ν n h.size):=by
 intro i j e
 unfold Vm.nuAt at e
 split at e<;>split at e
 ·exact s.inj _ _ e
 ·have:=s.old i ‹_›;omega
 ·have:=s.old j ‹_›;omega
 ·omega
theorem St.get{ν:Nu}{n:Nat}{A:AH}{h:AY}(s:St ν n A h){G:Nu→Prop}(f:DK ν n A G):G (Vm.nuAt ν n h.size):=
 f _ s.nuAt (fun i hi=>by simp[Vm.nuAt,hi]) (fun i hi=>s.sat.none_of_size (by simp only[Vm.nuAt];rw[if_neg (by omega)];omega))
theorem DK.mono{ν:Nu}{n:Nat}{A:AH}{G G':Nu→Prop}(f:DK ν n A G)(hg: ∀ν',G ν'→G' ν'):DK ν n A G':=fun ν' h1 h2 h3=>hg _ (f ν' h1 h2 h3)
theorem St.grew{ν:Nu}{n:Nat}{A:AH}{h h':AY}(s:St ν n A h)(g:Grew h h'):St ν n A h':=⟨s.sat.grew g,s.inj,fun i hi=>Nat.lt_of_lt_of_le (s.old i hi) g.le⟩
theorem St.start{A:AH}{h:AY}(hs:DO A h):St (fun i=>h.size+i) 0 A h:=⟨hs,fun i j e=>by omega,fun i hi=>by omega⟩
theorem DK.fresh{ν:Nu}{A:AH}{G:Nu→Prop}(hf: ∀ν',DN ν' A→G ν'):DK ν 0 A G:=fun ν' h1 _ h3=>hf ν' ⟨h1,fun i=>h3 i (Nat.zero_le _)⟩
theorem Ca.push{A:AH}{h:AY}{o:Obj}:Ca A h ((h.size,o)::A) (h.push o):=⟨by simp,fun b hb hl=>by
 refine⟨by simp[Array.getElem?_push,Nat.ne_of_lt hb], ?_⟩
 simp only[AA]
 rw[if_neg (by omega),hl]⟩
theorem DO.push{A:AH}{h:AY}{o:Obj}(hs:DO A h):DO ((h.size,o)::A) (h.push o):=fun b o' hl=>by
 simp only[AA]at hl
 split at hl
 ·rename_i e;subst e;simpa using hl
 ·have:=hs.lt hl
  rw[Array.getElem?_push,if_neg (by omega)]
  exact hs b o' hl
theorem St.alloc{ν:Nu}{n:Nat}{A:AH}{h:AY}(s:St ν n A h)(o:Obj){G:Nu→Nat→Prop}(f:DK ν n A fun ν'=>G ν' (ν' n)):
  ∃ν1,St ν1 (n+1) ((h.size,o)::A) (h.push o)∧DK ν1 (n+1) ((h.size,o)::A) fun ν'=>G ν' h.size:=by
 refine⟨Vm.nuAt ν n h.size,⟨s.sat.push,s.nuAt,fun i hi=> ?_⟩,fun ν' h1 h2 h3=> ?_⟩
 ·unfold Vm.nuAt
  simp only[Array.size_push]
  split
  ·have:=s.old i ‹_›;omega
  ·omega
 ·have hn:ν' n=h.size:=by rw[h2 n (by omega)];simp[Vm.nuAt]
  have:G ν' (ν' n):=f ν' h1 (fun i hi=>by rw[h2 i (by omega)];simp[Vm.nuAt,hi]) (fun i hi=>by
   rcases Nat.eq_or_lt_of_le hi with rfl|hi
   ·rw[hn];exact s.sat.none_of_size (Nat.le_refl _)
   ·have:=h3 i (by omega)
    simp only[AA]at this
    split at this
    ·cases this
    ·exact this)
  show G ν' h.size
  rw[←hn]
  exact this
def ED(K:Nu→Nat→Ba→AH→Prop)(A:AH)(h:AY)(ρ':Ba)(h':AY):Prop:= ∃ν1 n1 A1,St ν1 n1 A1 h'∧Ca A h A1 h'∧DK ν1 n1 A1 fun ν'=>K ν' n1 ρ' A1
def Dw(K:Nu→Nat→Value→AH→Prop)(A:AH)(h:AY)(v:Value)(h':AY):Prop:= ∃ν1 n1 A1,St ν1 n1 A1 h'∧Ca A h A1 h'∧DK ν1 n1 A1 fun ν'=>K ν' n1 v A1
theorem ED.same{K:Nu→Nat→Ba→AH→Prop}{A:AH}{h:AY}{ρ':Ba}{ν:Nu}{n:Nat}(s:St ν n A h)(f:DK ν n A fun ν'=>K ν' n ρ' A):ED K A h ρ' h:=⟨ν,n,A,s,Ca.refl _ _,f⟩
theorem Dw.same{K:Nu→Nat→Value→AH→Prop}{A:AH}{h:AY}{v:Value}{ν:Nu}{n:Nat}(s:St ν n A h)(f:DK ν n A fun ν'=>K ν' n v A):Dw K A h v h:=⟨ν,n,A,s,Ca.refl _ _,f⟩
theorem ED.from{K:Nu→Nat→Ba→AH→Prop}{A B:AH}{h h1 h2:AY}{ρ':Ba}(k:Ca A h B h1)(p:ED K B h1 ρ' h2):ED K A h ρ' h2:=by
 obtain⟨ν1,n1,A1,s,k1,f⟩:=p
 exact⟨ν1,n1,A1,s,k.trans k1,f⟩
theorem mm{nt:Nat}{dst:Option Nat}{ρ:Ba}{K:Nu→Nat→Ba→AH→Prop}{A:AH}{h h':AY}{v:Value}
  (p:Dw (fun ν n v A=>BJ nt dst v ρ fun ρ'=>K ν n ρ' A) A h v h'):BJ nt dst v ρ fun ρ'=>ED K A h ρ' h':=by
 obtain⟨ν1,n1,A1,s,k,f⟩:=p
 cases dst with
 |none=>exact⟨ν1,n1,A1,s,k,f⟩
 |some d=>
  have h0:=s.get f
  exact⟨h0.1,ν1,n1,A1,s,k,f.mono fun ν' h1=>h1.2⟩
theorem JT.uniq{P:Program}{g:FuncId}{args:Array Value}{A:AH}{v u:Value}(h1:JT P g args A v)(h2:JT P g args A u):v=u:=by
 obtain⟨h,hs⟩:=DO.ex A
 have r1:=h1.2 h hs
 have r2:=h2.2 h hs
 unfold E4 at r1 r2
 by_cases hc:AD P g=true
 ·rw[if_pos hc]at r1 r2
  have hi:=h1.1 hc
  obtain⟨e1,w1,f1,⟨⟨rfl,_⟩,_⟩,⟨n1,s1⟩,hf1,l1⟩:=r1 {(default:World)with heap:=h} rfl []
  obtain⟨e2,w2,f2,⟨⟨rfl,_⟩,_⟩,⟨n2,s2⟩,hf2,l2⟩:=r2 {(default:World)with heap:=h} rfl []
  have d1:=step_leave_done l1 (by rw[hf1];exact hi)
  have d2:=step_leave_done l2 (by rw[hf2];exact hi)
  have hm:lone f1 [] w1=lone f2 [] w2:=by
   rcases Nat.le_total n1 n2 with hn|hn
   ·exact C6 s1 s2 ⟨_,_,d1⟩ hn
   ·exact(C6 s2 s1 ⟨_,_,d2⟩ hn).symm
  rw[hm,d2]at d1
  cases d1
  rfl
 ·rw[if_neg hc]at r1 r2
  obtain⟨v1,w1,e1,_,e2,_⟩:=r1 {(default:World)with heap:=h} rfl
  obtain⟨v2,w2,e3,_,e4,_⟩:=r2 {(default:World)with heap:=h} rfl
  rw[e1]at e3
  cases e2
  cases e4
  cases e3
  rfl
theorem Bk{P:Program}{g:FuncId}{args:Array Value}{A:AH}{v:Value}(hp:JT P g args A v):B5 P g args A=some v:=by
 have H: ∃v,JT P g args A v:=⟨v,hp⟩
 unfold B5
 rw[dif_pos H]
 exact congrArg some (H.choose_spec.uniq hp)
theorem Ld{P:Program}{g:FuncId}{args:Array Value}{A:AH}{v:Value}(hr:B5 P g args A=some v):JT P g args A v:=by
 unfold B5 at hr
 split at hr
 ·rename_i H
  have:=H.choose_spec
  cases hr
  exact this
 ·cases hr
theorem MO.uniq{P:Program}{s:Sem Value}{A:AH}{v u:Value}(h1:MO P s A v)(h2:MO P s A u):v=u:=by
 obtain⟨h,hs⟩:=DO.ex A
 have e1:=h1 {(default:World)with heap:=h} hs
 have e2:=h2 {(default:World)with heap:=h} hs
 rw[e1]at e2
 cases e2
 rfl
theorem ZZ{P:Program}{s:Sem Value}{A:AH}{v:Value}(hp:MO P s A v):F8 P s A=some v:=by
 have H: ∃v,MO P s A v:=⟨v,hp⟩
 unfold F8
 rw[dif_pos H]
 exact congrArg some (H.choose_spec.uniq hp)
theorem Jz{P:Program}{s:Sem Value}{A:AH}{v:Value}(hr:F8 P s A=some v):MO P s A v:=by
 unfold F8 at hr
 split at hr
 ·rename_i H
  have:=H.choose_spec
  cases hr
  exact this
 ·cases hr
theorem DA.mono{P:Program}{s:Sem Value}{h:AY}{K K':Value→AY→Prop}(hr:DA P s h K)(hk: ∀v h',K v h'→K' v h'):DA P s h K':=fun w hw=>
 let ⟨v,w',h1,h2,h3⟩:=hr w hw
 ⟨v,w',h1,h2,hk _ _ h3⟩
theorem K6{P:Program}{s:Sem Value}{A:AH}{ν:Nu}{n:Nat}{h:AY}{K:Nu→Nat→Value→AH→Prop}(st:St ν n A h)(f:DK ν n A fun ν'=>Ef P s A ν' n K):DA P s h fun v h'=>Dw K A h v h':=by
 refine(st.get f h st.sat).mono ?_
 rintro u h' ⟨A',hs,hk,hK⟩
 exact⟨_,0,A',St.start hs,hk,DK.fresh hK⟩
theorem Wi{P:Program}{s:Sem Value}{A:AH}{ν:Nu}{n:Nat}{h:AY}{K:Nu→Nat→Value→AH→Prop}(st:St ν n A h)(f:DK ν n A fun ν'=>Js P s A ν' n K):DA P s h fun v h'=>Dw K A h v h':=by
 obtain⟨v,hv,_⟩:=AB (st.get f)
 intro w hw
 subst hw
 exact⟨v,w,Jz hv w st.sat,⟨rfl,rfl,rfl⟩,Dw.same st (f.mono fun ν' h1=>(Ad hv _).1 h1)⟩
theorem E4.mono{P:Program}{g:FuncId}{args:Array Value}{h:AY}{R R':Ending→AY→Prop}(hc:E4 P g args h R)(hr: ∀e h',R e h'→R' e h'):E4 P g args h R':=by
 unfold E4 at hc⊢
 split
 ·rw[if_pos ‹_›]at hc
  exact hc.mono0 hr
 ·rw[if_neg ‹_›]at hc
  intro w hw
  obtain⟨v,w',h1,h2,h3⟩:=hc w hw
  exact⟨v,w',h1,h2,hr _ _ h3⟩
def Dr:Frame:={(default:Frame)with todo:=[.extern "" #[],.code (.refuse "")],defers:=[{target:=.nil,args:= #[]}],mode:=.run}
theorem Pe(P:Program)(v:Value)(w:World): ∃o,step P (lone (Dr.finish v) [] w)=.ended o w:=
 ⟨_,step_lone_ended (by simp[stepG,Dr,Frame.finish];rfl)⟩
theorem XU(P:Program)(ch:List PanicEntry)(w:World): ∃o,step P (lone (Dr.raise ch) [] w)=.ended o w:=
 ⟨_,step_lone_ended (by simp[stepG,Dr,Frame.raise,unwind,callDeferred];rfl)⟩
theorem Xh{P:Program}{f:FuncId}{args:Array Value}{h:AY}{p:Value×AY}{R:Ending→AY→Prop}(hx:Ue P f args h p)(hc:CallsH P f args h R)(h1: ∀h',¬R .outgrown h'):R (.returned p.1) p.2:=by
 obtain⟨hi,hx⟩:=hx
 obtain⟨e1,w1,f1,⟨⟨rfl,hw1⟩,_⟩,⟨n1,s1⟩,hf1,l1⟩:=hx {(default:World)with heap:=h} rfl [Dr]
 obtain⟨e2,w2,f2,⟨hR,_⟩,s2,hf2,l2⟩:=hc {(default:World)with heap:=h} rfl [Dr]
 have a1:=step_leave_returned (c:=Dr) (cs:=[]) l1
 have b1:runN P (n1+1) (lone (Frame.enter P f args .normal) [Dr] {(default:World)with heap:=h})=.next (lone (Dr.finish p.1) [] w1):=by
  rw[runN_add,s1];simp[runN,a1]
 obtain⟨o1,d1⟩:=Pe P p.1 w1
 cases e2 with
 |outgrown=>exact absurd hR (h1 _)
 | panicked ch=>
  obtain⟨n2,s2⟩:=s2
  have a2:=step_leave_panicked (c:=Dr) (cs:=[]) l2
  have b2:runN P (n2+1) (lone (Frame.enter P f args .normal) [Dr] {(default:World)with heap:=h})=.next (lone (Dr.raise ch) [] w2):=by
   rw[runN_add,s2];simp[runN,a2]
  obtain⟨o2,d2⟩:=XU P ch w2
  have hm:lone (Dr.finish p.1) [] w1=lone (Dr.raise ch) [] w2:=by
   rcases Nat.le_total (n1+1) (n2+1)with hn|hn
   ·exact C6 b1 b2 ⟨_,_,d1⟩ hn
   ·exact(C6 b2 b1 ⟨_,_,d2⟩ hn).symm
  simp[lone,Dr,Frame.finish,Frame.raise]at hm
 | returned v=>
  obtain⟨n2,s2⟩:=s2
  have a2:=step_leave_returned (c:=Dr) (cs:=[]) l2
  have b2:runN P (n2+1) (lone (Frame.enter P f args .normal) [Dr] {(default:World)with heap:=h})=.next (lone (Dr.finish v) [] w2):=by
   rw[runN_add,s2];simp[runN,a2]
  obtain⟨o2,d2⟩:=Pe P v w2
  have hm:lone (Dr.finish p.1) [] w1=lone (Dr.finish v) [] w2:=by
   rcases Nat.le_total (n1+1) (n2+1)with hn|hn
   ·exact C6 b1 b2 ⟨_,_,d1⟩ hn
   ·exact(C6 b2 b1 ⟨_,_,d2⟩ hn).symm
  simp[lone,Dr,Frame.finish]at hm
  obtain⟨q1,q2⟩:=hm
  rw[←hw1]
  first
   |(rw[q1,q2];exact hR)
   |(rw[q2,q1];exact hR)
theorem CallsH.monoP{P:Program}{f:FuncId}{args:Array Value}{h:AY}{R R':Ending→AY→Prop}(hc:CallsH P f args h R)(hr: ∀e h',R e h'→R' e h')(h1: ∀h',¬R .outgrown h'):Bj P f args h R':=by
 unfold Bj
 split
 ·rename_i p hp
  unfold Hm at hp
  split at hp
  ·rename_i H
   cases hp
   exact hr _ _ (Xh H.choose_spec hc h1)
  ·cases hp
 ·exact hc.mono0 hr
def GG(X:Xp)(A:AH)(h:AY)(ch:List PanicEntry)(h':AY):Prop:= ∃X0 A',X=some X0∧DO A' h'∧Ca A h A' h'∧X0 ch A'
theorem GG.from{X:Xp}{A B:AH}{h h1 h2:AY}{ch:List PanicEntry}(k:Ca A h B h1)(p:GG X B h1 ch h2):GG X A h ch h2:=by
 obtain⟨X0,A',h3,s,k1,f⟩:=p
 exact⟨X0,A',h3,s,k.trans k1,f⟩
theorem SV{X:Xp}{A:AH}{h h':AY}{K:Value→AH→Prop}{e:Ending}(hr:HU A h K e h'):Z0 X A h K e h':=by
 cases X with
 |none=>exact hr
 |some X=>exact .inl hr
theorem Ho{X:Xp}{A:AH}{h h':AY}{K:Value→AH→Prop}{ch:List PanicEntry}(hp:GG X A h ch h'):Z0 X A h K (.panicked ch) h':=by
 obtain⟨X0,A',rfl,s,k,f⟩:=hp
 exact .inr ⟨ch,A',rfl,s,k,f⟩
theorem fj{P:Program}{imp:Imp}{g:FuncId}{args:Array Value}{A:AH}{ν:Nu}{n:Nat}{h:AY}{K:Nu→Nat→Value→AH→Prop}(st:St ν n A h)(f:DK ν n A fun ν'=>Th P imp g args A ν' n K):
  E4 P g args h fun e h'=>(∃v,e=.returned v∧Dw K A h v h')∨ ∃ch,e=.panicked ch∧GG imp.X A h ch h':=by
 have h0:=st.get f
 unfold Th at h0
 by_cases hi:g∈imp.l
 ·rw[if_pos hi]at h0
  unfold JF at h0
  split at h0
  ·refine(h0 h st.sat).mono ?_
   rintro e h' ⟨u,A',rfl,hs,hk,hK⟩
   exact .inl ⟨u,rfl,_,0,A',St.start hs,hk,DK.fresh hK⟩
  ·rename_i X0 hX
   refine(h0 h st.sat).mono ?_
   rintro e h' (⟨u,A',rfl,hs,hk,hK⟩|⟨ch,A',rfl,hs,hk,hK⟩)
   ·exact .inl ⟨u,rfl,_,0,A',St.start hs,hk,DK.fresh hK⟩
   ·exact .inr ⟨ch,rfl,X0,A',hX,hs,hk,hK⟩
 ·rw[if_neg hi]at h0
  obtain⟨v,hv,_⟩:=AB h0
  refine((Ld hv).2 h st.sat).mono ?_
  rintro u h' ⟨rfl,hg⟩
  refine .inl ⟨v,rfl,ν,n,A,st.grew hg,Ca.grew hg,f.mono fun ν' h1=> ?_⟩
  unfold Th at h1
  rw[if_neg hi]at h1
  exact(Ad hv _).1 h1
theorem me{A A':AH}{h:AY}{a:Addr}{vs:List Value}{ν:Nu}{n:Nat}(st:St ν n A h)(hw:oK A a vs=some A'): ∃h',Fq h a vs=some h'∧St ν n A' h'∧Ca A h A' h'∧ ∀b,AA A' b=none↔AA A b=none:=by
 obtain⟨b,off,spot⟩:=a
 unfold oK at hw
 split at hw
 ·rename_i e
  simp only at e
  subst e
  unfold mY at hw
  simp only at hw
  split at hw
  ·rename_i c e fr ho
   split at hw
   ·rename_i hc
    cases hw
    have hb:=st.sat _ _ ho
    have hlt:=st.sat.lt ho
    refine⟨h.setIfInBounds b (.cells (Cr c off vs) e fr), ?_,⟨?_,st.inj,fun i hi=>by simpa using st.old i hi⟩,⟨by simp,fun b' hb' hl=> ?_⟩,fun b'=> ?_⟩
    ·rw[HN,hb]
     simp only[pC]
     rw[if_pos hc]
    ·intro b' o' hl
     rw[Em]at hl
     rw[Array.getElem?_setIfInBounds]
     by_cases hbb:b'=b
     ·subst hbb
      rw[if_pos rfl,ho]at hl
      simp only[Option.map_some,Option.some.injEq]at hl
      subst hl
      simp[hlt]
     ·rw[if_neg hbb]at hl
      rw[if_neg (fun e=>hbb e.symm)]
      exact st.sat _ _ hl
    ·have hbb:b'≠b:=fun e=>by subst e;rw[ho]at hl;cases hl
     rw[Em,if_neg hbb,Array.getElem?_setIfInBounds,if_neg (fun e=>hbb e.symm)]
     exact⟨rfl,hl⟩
    ·rw[Em]
     by_cases hbb:b'=b
     ·subst hbb;simp[ho]
     ·simp[hbb]
   ·cases hw
  ·cases hw
 ·cases hw
end Go.Vm
