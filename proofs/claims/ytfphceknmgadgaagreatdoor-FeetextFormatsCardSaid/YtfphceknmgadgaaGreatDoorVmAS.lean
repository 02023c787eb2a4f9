/-
The second evaluator is sound: what it says of the known blocks the first one says of every heap that fits.
Conditions: none. Generic: it speaks of no program.
-/
import Derived.Test.YtfphceknmgadgaaGreatDoorVmA
set_option linter.unusedSimpArgs false
set_option linter.unusedVariables false
namespace Go.Vm
theorem Dq.nil(h:AX):Dq [] h:=fun _ _ hb=>by cases hb
theorem Dq.none_of_size{A:AH}{h:AX}(hs:Dq A h){b:Nat}(hb:h.size≤b):AA A b=none:=by
 cases hl:AA A b with
 |none=>rfl
 |some o=>have:=hs b o hl;rw[Array.getElem?_eq_none hb]at this;cases this
theorem Dq.lt{A:AH}{h:AX}(hs:Dq A h){b:Nat}{o:Obj}(hl:AA A b=some o):b<h.size:=by
 have:=hs b o hl
 rcases Nat.lt_or_ge b h.size with h1|h1
 ·exact h1
 ·rw[Array.getElem?_eq_none h1]at this;cases this
theorem Dq.grew{A:AH}{h h':AX}(hs:Dq A h)(g:Grew h h'):Dq A h':=fun b o hl=>g.get (hs b o hl)
theorem Dq.ex(A:AH): ∃h,Dq A h:=by
 have hN: ∃N,∀b o,AA A b=some o→b<N:=by
  induction A with
  |nil=>exact⟨0,fun b o h=>by cases h⟩
  |cons p A ih=>
   obtain⟨N,hN⟩:=ih
   refine⟨max N (p.1+1),fun b o h=> ?_⟩
   simp only[AA]at h
   split at h
   ·omega
   ·have:=hN b o h;omega
 obtain⟨N,hN⟩:=hN
 refine⟨(Array.range N).map fun i=>(AA A i).getD (.cells #[] 0),fun b o hl=> ?_⟩
 have hb:=hN b o hl
 simp[hb,hl]
theorem Cc.refl(A:AH)(h:AX):Cc A h A h:=⟨Nat.le_refl _,fun _ _ hl=>⟨rfl,hl⟩⟩
theorem Cc.trans{A B C:AH}{h1 h2 h3:AX}(k1:Cc A h1 B h2)(k2:Cc B h2 C h3):Cc A h1 C h3:=⟨Nat.le_trans k1.1 k2.1,fun b hb hl=>by
 obtain⟨e1,l1⟩:=k1.2 b hb hl
 obtain⟨e2,l2⟩:=k2.2 b (Nat.lt_of_lt_of_le hb k1.1) l1
 exact⟨e2.trans e1,l2⟩⟩
theorem Cc.grew{A:AH}{h h':AX}(g:Grew h h'):Cc A h A h':=⟨g.le,fun b hb hl=>⟨g.old b hb,hl⟩⟩
theorem Cc.to_grew{h h':AX}{A':AH}(k:Cc [] h A' h'):Grew h h':=⟨k.1,fun b hb=>(k.2 b hb rfl).1⟩
theorem SubA.refl(A:AH):SubA A A:=fun _ _ h=>h
theorem SubA.none{A' A:AH}(hs:SubA A' A){b:Nat}(h:AA A b=none):AA A' b=none:=by
 cases hl:AA A' b with
 |none=>rfl
 |some o=>rw[hs b o hl]at h;cases h
theorem Dq.sub{A' A:AH}{h:AX}(hs:SubA A' A)(hA:Dq A h):Dq A' h:=fun b o hl=>hA b o (hs b o hl)
theorem Cc.sub{A B B':AH}{h h':AX}(k:Cc A h B h')(hs:SubA B' B):Cc A h B' h':=⟨k.1,fun b hb hl=>⟨(k.2 b hb hl).1,hs.none (k.2 b hb hl).2⟩⟩
theorem Ep(A:AH)(x:Nat)(u:Obj)(b:Nat):AA (Fc A x u) b=if b=x then(AA A b).map fun _=>u else AA A b:=by
 induction A with
 |nil=>simp[Fc,AA]
 | cons p A ih=>
  simp only[Fc]
  split
  ·rename_i e
   subst e
   simp only[AA]
   by_cases hb:p.1=b
   ·simp[hb]
   ·have: ¬b=p.1:=fun e=>hb e.symm
    simp[hb,this]
  ·rename_i e
   simp only[AA,ih]
   by_cases hb:p.1=b
   ·subst hb;simp[e]
   ·simp[hb]
theorem Fq{o:Option Obj}{i n:Nat}{c:Array Value}(h:EZ o i n=some c): ∃cs e fr,o=some (.cells cs e fr):=by
 unfold EZ at h
 split at h
 ·exact⟨_,_,_,rfl⟩
 ·cases h
theorem Wf{o:Option Obj}{i:Nat}{v:Value}(h:Oi o i=some v): ∃cs e fr,o=some (.cells cs e fr):=by
 unfold Oi at h
 split at h
 ·exact⟨_,_,_,rfl⟩
 ·cases h
theorem Lk{P:Program}{A:AH}{h:AX}(hs:Dq A h){t:TypeId}{a:Addr}{v:Value}(hr:F1 P A t a=some v):K7 P h t a=some v:=by
 obtain⟨b,off,spot⟩:=a
 unfold F1 rdA at hr
 unfold K7
 split at hr
 ·rename_i n hsh
  rw[hsh]
  simp only at hr⊢
  split at hr
  ·rename_i e
   subst e
   unfold Hs at hr
   split at hr
   ·rename_i c hc
    obtain⟨cs,e,fr,ho⟩:=Fq hc
    rw[J8,hs _ _ ho,←ho,hc]
    exact hr
   ·cases hr
  ·cases hr
 ·rename_i n hsh
  rw[hsh]
  simp only at hr⊢
  split at hr
  ·rename_i e
   subst e
   obtain⟨cs,e,fr,ho⟩:=Wf hr
   rw[N1,hs _ _ ho,←ho]
   exact hr
  ·cases hr
 ·cases hr
theorem JC{P:Program}{A:AH}{h:AX}{ρ:Bc}(hs:Dq A h): ∀{rs:List ResultVar} {vs:List Value},HX P ρ A rs=some vs→LG P ρ h rs=some vs
 | [],vs,hr=>by simpa[HX,LG]using hr
 | r::rs,vs,hr=>by
  simp only[HX]at hr
  simp only[LG]
  have h1: ∀{v},N5 P ρ A r=some v→Sj P ρ h r=some v:=by
   intro v hv
   cases r with
   |tmp t=>exact hv
   |cell s ty=>
    simp only[N5]at hv
    simp only[Sj,oRd]
    split at hv
    ·rename_i a ha;rw[ha];exact Lk hs hv
    ·cases hv
  cases hr1:N5 P ρ A r with
  |none=>simp[hr1,Em]at hr
  | some v=>cases hl:HX P ρ A rs with
   |none=>simp[hr1,hl,Em]at hr
   |some us=>
    rw[h1 hr1,JC hs hl]
    simpa[hr1,hl]using hr
theorem Ai{α:Type}{o:Option α}{v:α}(h:o=some v)(K:α→Prop):A9 o K↔K v:=by subst h;exact Iff.rfl
theorem Dt{c K:Prop}(h:c):Br c K↔K:=⟨fun x=>x.2,fun x=>⟨h,x⟩⟩
theorem ij{P:Program}{op:BinOp}{t:TypeId}{x y:Value}{K0:Value→Prop}(h:Cv P op t x y K0): ∃v,∀K:Value→Prop,Cv P op t x y K↔K v:=by
 unfold Cv at h
 split at h
 ·split at h
  all_goals first
   |(obtain⟨rfl,_⟩:=h;exact⟨_,fun K=>by simp only[Cv,Br,true_and]⟩)
   |(obtain⟨⟨rfl,hb⟩,_⟩:=h;exact⟨_,fun K=>by simp only[Cv,Br,true_and];exact⟨fun q=>q.2,fun q=>⟨hb,q⟩⟩⟩)
   |(obtain⟨hb,_⟩:=h;exact⟨_,fun K=>by simp only[Cv,Br];exact⟨fun q=>q.2,fun q=>⟨hb,q⟩⟩⟩)
 ·split at h
  all_goals first
   |exact h.elim
   |(obtain⟨hb,_⟩:=h;exact⟨_,fun K=>by simp only[Cv,Br];exact⟨fun q=>q.2,fun q=>⟨hb,q⟩⟩⟩)
   |exact⟨_,fun K=>Iff.rfl⟩
 ·rename_i n1 n2
  split at h
  ·obtain⟨h1,h2⟩:=h
   obtain⟨b,hb,_⟩:=AB h2
   refine⟨.bool b,fun K=> ?_⟩
   have e:Cv P .eql t x y K=Br (Ez P t x y=true) (A9 (KO P 10000 t x y) fun b=>K (.bool b)):=by
    unfold Cv
    split
    ·exact(n1 _ _ _ _ rfl rfl).elim
    ·exact(n2 _ _ rfl rfl).elim
    ·rfl
   rw[e,Dt h1,Ai hb]
  ·obtain⟨h1,h2⟩:=h
   obtain⟨b,hb,_⟩:=AB h2
   refine⟨.bool (!b),fun K=> ?_⟩
   have e:Cv P .neq t x y K=Br (Ez P t x y=true) (A9 (KO P 10000 t x y) fun b=>K (.bool (!b))):=by
    unfold Cv
    split
    ·exact(n1 _ _ _ _ rfl rfl).elim
    ·exact(n2 _ _ rfl rfl).elim
    ·rfl
   rw[e,Dt h1,Ai hb]
  ·exact h.elim
theorem fG{P:Program}{t:TypeId}{x i:Value}{K0:Value→Prop}(h:PV P t x i K0): ∃v,∀K:Value→Prop,PV P t x i K↔K v:=by
 unfold PV at h
 split at h
 ·obtain⟨h1,h2⟩:=h
  obtain⟨b,hb,_⟩:=AB h2
  exact⟨_,fun K=>by simp only[PV];rw[Dt h1,Ai hb]⟩
 ·split at h
  ·rename_i len e hu
   obtain⟨h1,h2⟩:=h
   obtain⟨s,hs,h2⟩:=AB h2
   obtain⟨v,hv,_⟩:=AB h2
   exact⟨v,fun K=>by simp only[PV,hu];rw[Dt h1,Ai hs,Ai hv]⟩
  ·exact h.elim
 ·exact h.elim
theorem dH{P:Program}{t:TypeId}{x i:Value}{K0:Value→Prop}(h:PQ P t x i K0): ∃v,∀K:Value→Prop,PQ P t x i K↔K v:=by
 unfold PQ at h
 split at h
 ·obtain⟨e,he,h1⟩:=AB h
  exact⟨_,fun K=>by simp only[PQ];rw[Ai he,Dt h1.1]⟩
 ·split at h
  ·rename_i len e hu
   obtain⟨s,hs,h1⟩:=AB h
   exact⟨_,fun K=>by simp only[PQ,hu];rw[Ai hs,Dt h1.1]⟩
  ·exact h.elim
 ·exact h.elim
theorem nO{P:Program}{t:TypeId}{x:Value}{lo hi:Option Value}{K0:Value→Prop}(h:ll P t x lo hi K0): ∃v,∀K:Value→Prop,ll P t x lo hi K↔K v:=by
 unfold ll at h
 split at h
 ·obtain⟨l,hl,h⟩:=AB h
  obtain⟨r,hr,h⟩:=AB h
  exact⟨_,fun K=>by simp only[ll];rw[Ai hl,Ai hr,Dt h.1]⟩
 ·obtain⟨e,he,h⟩:=AB h
  obtain⟨l,hl,h⟩:=AB h
  obtain⟨r,hr,h⟩:=AB h
  exact⟨_,fun K=>by simp only[ll];rw[Ai he,Ai hl,Ai hr,Dt h.1]⟩
 ·exact h.elim
theorem du{P:Program}{t:TypeId}{x mx:Value}{lo hi:Option Value}{K0:Value→Prop}(h:PZ P t x lo hi mx K0): ∃v,∀K:Value→Prop,PZ P t x lo hi mx K↔K v:=by
 unfold PZ at h
 split at h
 ·obtain⟨e,he,h⟩:=AB h
  obtain⟨l,hl,h⟩:=AB h
  obtain⟨r,hr,h⟩:=AB h
  obtain⟨m,hm,h⟩:=AB h
  exact⟨_,fun K=>by simp only[PZ];rw[Ai he,Ai hl,Ai hr,Ai hm,Dt h.1]⟩
 ·exact h.elim
theorem qp{P:Program}{op:Op}{ty:TypeId}{ρ:Bc}{h0:AX}{K0:Value→AX→Prop}(hq:Ls P op=true)(hnc: ∀s d x,op≠ .convert s d x)(hp:Jq P op ty ρ h0 K0):
  ∃v,∀(h:AX) (K:Value→AX→Prop),Jq P op ty ρ h K↔K v h:=by
 unfold Jq at hp
 split at hp
 ·obtain⟨v,hv,_⟩:=AB hp
  exact⟨v,fun h K=>by simp only[Jq];rw[Ai hv]⟩
 ·obtain⟨v,hv,_⟩:=AB hp
  exact⟨v,fun h K=>by simp only[Jq];rw[Ai hv]⟩
 ·obtain⟨v,hv,hp⟩:=AB hp
  unfold Sx at hp
  split at hp
  ·rename_i b
   cases b with
   |true=>
    obtain⟨u,hu,_⟩:=AB (hp.1 rfl)
    exact⟨u,fun h K=>by simp only[Jq];rw[Ai hv];simp only[Sx,O1];rw[Ai hu]⟩
   |false=>
    obtain⟨u,hu,_⟩:=AB (hp.2 rfl)
    exact⟨u,fun h K=>by simp only[Jq];rw[Ai hv];simp only[Sx,Lu];rw[Ai hu]⟩
  ·exact hp.elim
 ·cases hq
 ·cases hq
 ·obtain⟨vs,hv,hp⟩:=AB hp
  obtain⟨v,hb,_⟩:=AB hp
  exact⟨v,fun h K=>by simp only[Jq];rw[Ai hv,Ai hb]⟩
 ·cases hq
 ·cases hq
 ·cases hq
 ·obtain⟨p,hp1,hp⟩:=AB hp
  obtain⟨ad,ha,_⟩:=AB hp
  exact⟨p,fun h K=>by simp only[Jq];rw[Ai hp1,Ai ha]⟩
 ·obtain⟨u,hu,hp⟩:=AB hp
  obtain⟨v,hv,hp⟩:=AB hp
  obtain⟨r,hr⟩:=ij hp
  exact⟨r,fun h K=>by simp only[Jq];rw[Ai hu,Ai hv,hr]⟩
 ·obtain⟨v,hv,hp⟩:=AB hp
  obtain⟨u,hu,_⟩:=AB hp
  exact⟨u,fun h K=>by simp only[Jq];rw[Ai hv,Ai hu]⟩
 ·exact absurd rfl (hnc _ _ _)
 ·obtain⟨v,hv,hp⟩:=AB hp
  exact⟨_,fun h K=>by simp only[Jq];rw[Ai hv,Dt hp.1]⟩
 ·obtain⟨us,hu,hp⟩:=AB hp
  obtain⟨vs,hv,_⟩:=AB hp
  exact⟨_,fun h K=>by simp only[Jq];rw[Ai hu,Ai hv]⟩
 ·cases hq
 ·cases hq
 ·obtain⟨v,hv,hp⟩:=AB hp
  obtain⟨l,hl,hp⟩:=AB hp
  obtain⟨r,hr,hp⟩:=AB hp
  obtain⟨u,hu⟩:=nO hp
  exact⟨u,fun h K=>by simp only[Jq];rw[Ai hv,Ai hl,Ai hr,hu]⟩
 ·obtain⟨v,hv,hp⟩:=AB hp
  obtain⟨l,hl,hp⟩:=AB hp
  obtain⟨r,hr,hp⟩:=AB hp
  obtain⟨mv,hm,hp⟩:=AB hp
  obtain⟨u,hu⟩:=du hp
  exact⟨u,fun h K=>by simp only[Jq];rw[Ai hv,Ai hl,Ai hr,Ai hm,hu]⟩
 ·obtain⟨p,hp1,hp⟩:=AB hp
  obtain⟨ad,ha,hp⟩:=AB hp
  obtain⟨f,hf,hp⟩:=AB hp
  exact⟨_,fun h K=>by simp only[Jq];rw[Ai hp1,Ai ha,Ai hf,Dt hp.1]⟩
 ·obtain⟨v,hv,hp⟩:=AB hp
  obtain⟨u,hu,_⟩:=AB hp
  exact⟨u,fun h K=>by simp only[Jq];rw[Ai hv,Ai hu]⟩
 ·obtain⟨v,hv,hp⟩:=AB hp
  obtain⟨i,hi,hp⟩:=AB hp
  obtain⟨u,hu⟩:=dH hp
  exact⟨u,fun h K=>by simp only[Jq];rw[Ai hv,Ai hi,hu]⟩
 ·obtain⟨v,hv,hp⟩:=AB hp
  obtain⟨i,hi,hp⟩:=AB hp
  obtain⟨u,hu⟩:=fG hp
  exact⟨u,fun h K=>by simp only[Jq];rw[Ai hv,Ai hi,hu]⟩
 ·cases hq
 ·cases hq
 ·cases hq
 ·cases hq
 ·cases hq
 ·cases hq
 ·obtain⟨v,hv,hp⟩:=AB hp
  clear hp
  rename_i hp
  obtain⟨v,hv,hp⟩:=AB hp
  split at hp
  ·obtain⟨u,hu,_⟩:=AB hp
   exact⟨u,fun h K=>by simp only[Jq];rw[Ai hv];simp only;rw[Ai hu]⟩
  ·exact hp.elim
 ·cases hq
 ·exact hp.elim
structure St(ν:Nu)(n:Nat)(A:AH)(h:AX):Prop where
 sat:Dq A h
 inj:R9 ν
 old: ∀i,i<n→ν i<h.size
def Dv(ν:Nu)(n:Nat)(A:AH)(G:Nu→Prop):Prop:= ∀ν',R9 ν'→(∀i,i<n→ν' i=ν i)→(∀i,n≤i→AA A (ν' i)=none)→G ν'
def nuAt(ν:Nu)(n N:Nat):Nu:=fun i=>if i<n then ν i else N+(i - n)
theorem St.nuAt{ν:Nu}{n:Nat}{A:AH}{h:AX}(s:St ν n A h):R9 (nuAt ν n h.size):=by
 intro i j e
 unfold Vm.nuAt at e
 split at e<;>split at e
 ·exact s.inj _ _ e
 ·have:=s.old i ‹_›;omega
 ·have:=s.old j ‹_›;omega
 ·omega
theorem St.get{ν:Nu}{n:Nat}{A:AH}{h:AX}(s:St ν n A h){G:Nu→Prop}(f:Dv ν n A G):G (Vm.nuAt ν n h.size):=
 f _ s.nuAt (fun i hi=>by simp[Vm.nuAt,hi]) (fun i hi=>s.sat.none_of_size (by simp only[Vm.nuAt];rw[if_neg (by omega)];omega))
theorem Dv.mono{ν:Nu}{n:Nat}{A:AH}{G G':Nu→Prop}(f:Dv ν n A G)(hg: ∀ν',G ν'→G' ν'):Dv ν n A G':=fun ν' h1 h2 h3=>hg _ (f ν' h1 h2 h3)
theorem St.grew{ν:Nu}{n:Nat}{A:AH}{h h':AX}(s:St ν n A h)(g:Grew h h'):St ν n A h':=⟨s.sat.grew g,s.inj,fun i hi=>Nat.lt_of_lt_of_le (s.old i hi) g.le⟩
theorem St.start{A:AH}{h:AX}(hs:Dq A h):St (fun i=>h.size+i) 0 A h:=⟨hs,fun i j e=>by omega,fun i hi=>by omega⟩
theorem Dv.fresh{ν:Nu}{A:AH}{G:Nu→Prop}(hf: ∀ν',Dx ν' A→G ν'):Dv ν 0 A G:=fun ν' h1 _ h3=>hf ν' ⟨h1,fun i=>h3 i (Nat.zero_le _)⟩
theorem Cc.push{A:AH}{h:AX}{o:Obj}:Cc A h ((h.size,o)::A) (h.push o):=⟨by simp,fun b hb hl=>by
 refine⟨by simp[Array.getElem?_push,Nat.ne_of_lt hb], ?_⟩
 simp only[AA]
 rw[if_neg (by omega),hl]⟩
theorem Dq.push{A:AH}{h:AX}{o:Obj}(hs:Dq A h):Dq ((h.size,o)::A) (h.push o):=fun b o' hl=>by
 simp only[AA]at hl
 split at hl
 ·rename_i e;subst e;simpa using hl
 ·have:=hs.lt hl
  rw[Array.getElem?_push,if_neg (by omega)]
  exact hs b o' hl
theorem St.alloc{ν:Nu}{n:Nat}{A:AH}{h:AX}(s:St ν n A h)(o:Obj){G:Nu→Nat→Prop}(f:Dv ν n A fun ν'=>G ν' (ν' n)):
  ∃ν1,St ν1 (n+1) ((h.size,o)::A) (h.push o)∧Dv ν1 (n+1) ((h.size,o)::A) fun ν'=>G ν' h.size:=by
 refine⟨Vm.nuAt ν n h.size,⟨s.sat.push,s.nuAt,fun i hi=> ?_⟩,fun ν' h1 h2 h3=> ?_⟩
 ·unfold Vm.nuAt
  simp only[Array.size_push]
  split
  ·have:=s.old i ‹_›;omega
  ·omega
 ·have hn:ν' n=h.size:=by rw[h2 n (by omega)];simp[Vm.nuAt]
  have:G ν' (ν' n):=f ν' h1 (fun i hi=>by rw[h2 i (by omega)];simp[Vm.nuAt,hi]) (fun i hi=>by
   rcases Nat.eq_or_lt_of_le hi with rfl|hi
   ·rw[hn];exact s.sat.none_of_size (Nat.le_refl _)
   ·have:=h3 i (by omega)
    simp only[AA]at this
    split at this
    ·cases this
    ·exact this)
  show G ν' h.size
  rw[←hn]
  exact this
def FH(K:Nu→Nat→Bc→AH→Prop)(A:AH)(h:AX)(ρ':Bc)(h':AX):Prop:= ∃ν1 n1 A1,St ν1 n1 A1 h'∧Cc A h A1 h'∧Dv ν1 n1 A1 fun ν'=>K ν' n1 ρ' A1
def En(K:Nu→Nat→Value→AH→Prop)(A:AH)(h:AX)(v:Value)(h':AX):Prop:= ∃ν1 n1 A1,St ν1 n1 A1 h'∧Cc A h A1 h'∧Dv ν1 n1 A1 fun ν'=>K ν' n1 v A1
theorem FH.same{K:Nu→Nat→Bc→AH→Prop}{A:AH}{h:AX}{ρ':Bc}{ν:Nu}{n:Nat}(s:St ν n A h)(f:Dv ν n A fun ν'=>K ν' n ρ' A):FH K A h ρ' h:=⟨ν,n,A,s,Cc.refl _ _,f⟩
theorem En.same{K:Nu→Nat→Value→AH→Prop}{A:AH}{h:AX}{v:Value}{ν:Nu}{n:Nat}(s:St ν n A h)(f:Dv ν n A fun ν'=>K ν' n v A):En K A h v h:=⟨ν,n,A,s,Cc.refl _ _,f⟩
theorem FH.from{K:Nu→Nat→Bc→AH→Prop}{A B:AH}{h h1 h2:AX}{ρ':Bc}(k:Cc A h B h1)(p:FH K B h1 ρ' h2):FH K A h ρ' h2:=by
 obtain⟨ν1,n1,A1,s,k1,f⟩:=p
 exact⟨ν1,n1,A1,s,k.trans k1,f⟩
theorem put_to{nt:Nat}{dst:Option Nat}{ρ:Bc}{K:Nu→Nat→Bc→AH→Prop}{A:AH}{h h':AX}{v:Value}
  (p:En (fun ν n v A=>BL nt dst v ρ fun ρ'=>K ν n ρ' A) A h v h'):BL nt dst v ρ fun ρ'=>FH K A h ρ' h':=by
 obtain⟨ν1,n1,A1,s,k,f⟩:=p
 cases dst with
 |none=>exact⟨ν1,n1,A1,s,k,f⟩
 |some d=>
  have h0:=s.get f
  exact⟨h0.1,ν1,n1,A1,s,k,f.mono fun ν' h1=>h1.2⟩
theorem Km.uniq{P:Program}{g:FuncId}{args:Array Value}{A:AH}{v u:Value}(h1:Km P g args A v)(h2:Km P g args A u):v=u:=by
 obtain⟨h,hs⟩:=Dq.ex A
 have r1:=h1.2 h hs
 have r2:=h2.2 h hs
 unfold Fl at r1 r2
 by_cases hc:AD P g=true
 ·rw[if_pos hc]at r1 r2
  have hi:=h1.1 hc
  obtain⟨e1,w1,f1,⟨⟨rfl,_⟩,_⟩,⟨n1,s1⟩,hf1,l1⟩:=r1 {(default:World)with heap:=h} rfl []
  obtain⟨e2,w2,f2,⟨⟨rfl,_⟩,_⟩,⟨n2,s2⟩,hf2,l2⟩:=r2 {(default:World)with heap:=h} rfl []
  have d1:=step_leave_done l1 (by rw[hf1];exact hi)
  have d2:=step_leave_done l2 (by rw[hf2];exact hi)
  have hm:lone f1 [] w1=lone f2 [] w2:=by
   rcases Nat.le_total n1 n2 with hn|hn
   ·exact DY s1 s2 ⟨_,_,d1⟩ hn
   ·exact(DY s2 s1 ⟨_,_,d2⟩ hn).symm
  rw[hm,d2]at d1
  cases d1
  rfl
 ·rw[if_neg hc]at r1 r2
  obtain⟨v1,w1,e1,_,e2,_⟩:=r1 {(default:World)with heap:=h} rfl
  obtain⟨v2,w2,e3,_,e4,_⟩:=r2 {(default:World)with heap:=h} rfl
  rw[e1]at e3
  cases e2
  cases e4
  cases e3
  rfl
theorem BP{P:Program}{g:FuncId}{args:Array Value}{A:AH}{v:Value}(hp:Km P g args A v):Bi P g args A=some v:=by
 have H: ∃v,Km P g args A v:=⟨v,hp⟩
 unfold Bi
 rw[dif_pos H]
 exact congrArg some (H.choose_spec.uniq hp)
theorem PD{P:Program}{g:FuncId}{args:Array Value}{A:AH}{v:Value}(hr:Bi P g args A=some v):Km P g args A v:=by
 unfold Bi at hr
 split at hr
 ·rename_i H
  have:=H.choose_spec
  cases hr
  exact this
 ·cases hr
theorem OU.uniq{P:Program}{s:Sem Value}{A:AH}{v u:Value}(h1:OU P s A v)(h2:OU P s A u):v=u:=by
 obtain⟨h,hs⟩:=Dq.ex A
 have e1:=h1 {(default:World)with heap:=h} hs
 have e2:=h2 {(default:World)with heap:=h} hs
 rw[e1]at e2
 cases e2
 rfl
theorem LU{P:Program}{s:Sem Value}{A:AH}{v:Value}(hp:OU P s A v):F3 P s A=some v:=by
 have H: ∃v,OU P s A v:=⟨v,hp⟩
 unfold F3
 rw[dif_pos H]
 exact congrArg some (H.choose_spec.uniq hp)
theorem Lm{P:Program}{s:Sem Value}{A:AH}{v:Value}(hr:F3 P s A=some v):OU P s A v:=by
 unfold F3 at hr
 split at hr
 ·rename_i H
  have:=H.choose_spec
  cases hr
  exact this
 ·cases hr
theorem Db.mono{P:Program}{s:Sem Value}{h:AX}{K K':Value→AX→Prop}(hr:Db P s h K)(hk: ∀v h',K v h'→K' v h'):Db P s h K':=fun w hw=>
 let ⟨v,w',h1,h2,h3⟩:=hr w hw
 ⟨v,w',h1,h2,hk _ _ h3⟩
theorem M0{P:Program}{s:Sem Value}{A:AH}{ν:Nu}{n:Nat}{h:AX}{K:Nu→Nat→Value→AH→Prop}(st:St ν n A h)(f:Dv ν n A fun ν'=>FP P s A ν' n K):Db P s h fun v h'=>En K A h v h':=by
 refine(st.get f h st.sat).mono ?_
 rintro u h' ⟨A',hs,hk,hK⟩
 exact⟨_,0,A',St.start hs,hk,Dv.fresh hK⟩
theorem ZC{P:Program}{s:Sem Value}{A:AH}{ν:Nu}{n:Nat}{h:AX}{K:Nu→Nat→Value→AH→Prop}(st:St ν n A h)(f:Dv ν n A fun ν'=>K8 P s A ν' n K):Db P s h fun v h'=>En K A h v h':=by
 obtain⟨v,hv,_⟩:=AB (st.get f)
 intro w hw
 subst hw
 exact⟨v,w,Lm hv w st.sat,⟨rfl,rfl,rfl⟩,En.same st (f.mono fun ν' h1=>(Ai hv _).1 h1)⟩
theorem Fl.mono{P:Program}{g:FuncId}{args:Array Value}{h:AX}{R R':Ending→AX→Prop}(hc:Fl P g args h R)(hr: ∀e h',R e h'→R' e h'):Fl P g args h R':=by
 unfold Fl at hc⊢
 split
 ·rw[if_pos ‹_›]at hc
  exact hc.mono0 hr
 ·rw[if_neg ‹_›]at hc
  intro w hw
  obtain⟨v,w',h1,h2,h3⟩:=hc w hw
  exact⟨v,w',h1,h2,hr _ _ h3⟩
def Ei:Frame:={(default:Frame)with todo:=[.extern "" #[],.code (.refuse "")],defers:=[{target:=.nil,args:= #[]}],mode:=.run}
theorem Q9(P:Program)(v:Value)(w:World): ∃o,step P (lone (Ei.finish v) [] w)=.ended o w:=
 ⟨_,step_lone_ended (by simp[stepG,Ei,Frame.finish];rfl)⟩
theorem cR(P:Program)(ch:List PanicEntry)(w:World): ∃o,step P (lone (Ei.raise ch) [] w)=.ended o w:=
 ⟨_,step_lone_ended (by simp[stepG,Ei,Frame.raise,unwind,callDeferred];rfl)⟩
theorem cd{P:Program}{f:FuncId}{args:Array Value}{h:AX}{p:Value×AX}{R:Ending→AX→Prop}(hx:bE P f args h p)(hc:CallsH P f args h R)(h1: ∀h',¬R .outgrown h'):R (.returned p.1) p.2:=by
 obtain⟨hi,hx⟩:=hx
 obtain⟨e1,w1,f1,⟨⟨rfl,hw1⟩,_⟩,⟨n1,s1⟩,hf1,l1⟩:=hx {(default:World)with heap:=h} rfl [Ei]
 obtain⟨e2,w2,f2,⟨hR,_⟩,s2,hf2,l2⟩:=hc {(default:World)with heap:=h} rfl [Ei]
 have a1:=step_leave_returned (c:=Ei) (cs:=[]) l1
 have b1:runN P (n1+1) (lone (Frame.enter P f args .normal) [Ei] {(default:World)with heap:=h})=.next (lone (Ei.finish p.1) [] w1):=by
  rw[runN_add,s1];simp[runN,a1]
 obtain⟨o1,d1⟩:=Q9 P p.1 w1
 cases e2 with
 |outgrown=>exact absurd hR (h1 _)
 | panicked ch=>
  obtain⟨n2,s2⟩:=s2
  have a2:=step_leave_panicked (c:=Ei) (cs:=[]) l2
  have b2:runN P (n2+1) (lone (Frame.enter P f args .normal) [Ei] {(default:World)with heap:=h})=.next (lone (Ei.raise ch) [] w2):=by
   rw[runN_add,s2];simp[runN,a2]
  obtain⟨o2,d2⟩:=cR P ch w2
  have hm:lone (Ei.finish p.1) [] w1=lone (Ei.raise ch) [] w2:=by
   rcases Nat.le_total (n1+1) (n2+1)with hn|hn
   ·exact DY b1 b2 ⟨_,_,d1⟩ hn
   ·exact(DY b2 b1 ⟨_,_,d2⟩ hn).symm
  simp[lone,Ei,Frame.finish,Frame.raise]at hm
 | returned v=>
  obtain⟨n2,s2⟩:=s2
  have a2:=step_leave_returned (c:=Ei) (cs:=[]) l2
  have b2:runN P (n2+1) (lone (Frame.enter P f args .normal) [Ei] {(default:World)with heap:=h})=.next (lone (Ei.finish v) [] w2):=by
   rw[runN_add,s2];simp[runN,a2]
  obtain⟨o2,d2⟩:=Q9 P v w2
  have hm:lone (Ei.finish p.1) [] w1=lone (Ei.finish v) [] w2:=by
   rcases Nat.le_total (n1+1) (n2+1)with hn|hn
   ·exact DY b1 b2 ⟨_,_,d1⟩ hn
   ·exact(DY b2 b1 ⟨_,_,d2⟩ hn).symm
  simp[lone,Ei,Frame.finish]at hm
  obtain⟨q1,q2⟩:=hm
  rw[←hw1]
  first
   |(rw[q1,q2];exact hR)
   |(rw[q2,q1];exact hR)
theorem CallsH.monoP{P:Program}{f:FuncId}{args:Array Value}{h:AX}{R R':Ending→AX→Prop}(hc:CallsH P f args h R)(hr: ∀e h',R e h'→R' e h')(h1: ∀h',¬R .outgrown h'):Bz P f args h R':=by
 unfold Bz
 split
 ·rename_i p hp
  unfold LD at hp
  split at hp
  ·rename_i H
   cases hp
   exact hr _ _ (cd H.choose_spec hc h1)
  ·cases hp
 ·exact hc.mono0 hr
def Hd(X:Xp)(A:AH)(h:AX)(ch:List PanicEntry)(h':AX):Prop:= ∃X0 A',X=some X0∧Dq A' h'∧Cc A h A' h'∧X0 ch A'
theorem Hd.from{X:Xp}{A B:AH}{h h1 h2:AX}{ch:List PanicEntry}(k:Cc A h B h1)(p:Hd X B h1 ch h2):Hd X A h ch h2:=by
 obtain⟨X0,A',h3,s,k1,f⟩:=p
 exact⟨X0,A',h3,s,k.trans k1,f⟩
theorem S8{X:Xp}{A:AH}{h h':AX}{K:Value→AH→Prop}{e:Ending}(hr:KG A h K e h'):de X A h K e h':=by
 cases X with
 |none=>exact hr
 |some X=>exact .inl hr
theorem LC{X:Xp}{A:AH}{h h':AX}{K:Value→AH→Prop}{ch:List PanicEntry}(hp:Hd X A h ch h'):de X A h K (.panicked ch) h':=by
 obtain⟨X0,A',rfl,s,k,f⟩:=hp
 exact .inr ⟨ch,A',rfl,s,k,f⟩
theorem nC{P:Program}{imp:Imp}{g:FuncId}{args:Array Value}{A:AH}{ν:Nu}{n:Nat}{h:AX}{K:Nu→Nat→Value→AH→Prop}(st:St ν n A h)(f:Dv ν n A fun ν'=>XE P imp g args A ν' n K):
  Fl P g args h fun e h'=>(∃v,e=.returned v∧En K A h v h')∨ ∃ch,e=.panicked ch∧Hd imp.X A h ch h':=by
 have h0:=st.get f
 unfold XE at h0
 by_cases hi:g∈imp.l
 ·rw[if_pos hi]at h0
  unfold KW at h0
  split at h0
  ·refine(h0 h st.sat).mono ?_
   rintro e h' ⟨u,A',rfl,hs,hk,hK⟩
   exact .inl ⟨u,rfl,_,0,A',St.start hs,hk,Dv.fresh hK⟩
  ·rename_i X0 hX
   refine(h0 h st.sat).mono ?_
   rintro e h' (⟨u,A',rfl,hs,hk,hK⟩|⟨ch,A',rfl,hs,hk,hK⟩)
   ·exact .inl ⟨u,rfl,_,0,A',St.start hs,hk,Dv.fresh hK⟩
   ·exact .inr ⟨ch,rfl,X0,A',hX,hs,hk,hK⟩
 ·rw[if_neg hi]at h0
  obtain⟨v,hv,_⟩:=AB h0
  refine((PD hv).2 h st.sat).mono ?_
  rintro u h' ⟨rfl,hg⟩
  refine .inl ⟨v,rfl,ν,n,A,st.grew hg,Cc.grew hg,f.mono fun ν' h1=> ?_⟩
  unfold XE at h1
  rw[if_neg hi]at h1
  exact(Ai hv _).1 h1
theorem u6{A A':AH}{h:AX}{a:Addr}{vs:List Value}{ν:Nu}{n:Nat}(st:St ν n A h)(hw:wrA A a vs=some A'): ∃h',HG h a vs=some h'∧St ν n A' h'∧Cc A h A' h'∧ ∀b,AA A' b=none↔AA A b=none:=by
 obtain⟨b,off,spot⟩:=a
 unfold wrA at hw
 split at hw
 ·rename_i e
  simp only at e
  subst e
  unfold wrO at hw
  simp only at hw
  split at hw
  ·rename_i c e fr ho
   split at hw
   ·rename_i hc
    cases hw
    have hb:=st.sat _ _ ho
    have hlt:=st.sat.lt ho
    refine⟨h.setIfInBounds b (.cells (DE c off vs) e fr), ?_,⟨?_,st.inj,fun i hi=>by simpa using st.old i hi⟩,⟨by simp,fun b' hb' hl=> ?_⟩,fun b'=> ?_⟩
    ·rw[J5,hb]
     simp only[wrS]
     rw[if_pos hc]
    ·intro b' o' hl
     rw[Ep]at hl
     rw[Array.getElem?_setIfInBounds]
     by_cases hbb:b'=b
     ·subst hbb
      rw[if_pos rfl,ho]at hl
      simp only[Option.map_some,Option.some.injEq]at hl
      subst hl
      simp[hlt]
     ·rw[if_neg hbb]at hl
      rw[if_neg (fun e=>hbb e.symm)]
      exact st.sat _ _ hl
    ·have hbb:b'≠b:=fun e=>by subst e;rw[ho]at hl;cases hl
     rw[Ep,if_neg hbb,Array.getElem?_setIfInBounds,if_neg (fun e=>hbb e.symm)]
     exact⟨rfl,hl⟩
    ·rw[Ep]
     by_cases hbb:b'=b
     ·subst hbb;simp[ho]
     ·simp[hbb]
   ·cases hw
  ·cases hw
 ·cases hw
end Go.Vm
