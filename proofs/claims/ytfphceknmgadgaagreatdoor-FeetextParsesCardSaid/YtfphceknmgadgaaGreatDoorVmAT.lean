/-
The second evaluator is sound, continued: operations, code, calls; the rules for loops.
Conditions: none. Generic: it speaks of no program.
-/
import Derived.Test.YtfphceknmgadgaaGreatDoorVmAS
set_option linter.unusedSimpArgs false
set_option linter.unusedVariables false
namespace Go.Vm
theorem S8{P:Program}{t:TypeId}{x:Value}{A:AH}{K0:Value→Prop}(h0:G0 P t x A K0): ∃v,(∀K,G0 P t x A K↔K v)∧ ∀h K,DO A h→(GM P t x h K↔K v):=by
 have main: ∀x:Value,(∀r,x≠ .map (some r))→GM P t x #[] K0→ ∃v,∀h (K:Value→Prop),GM P t x h K↔K v:=by
  intro x hx h0
  unfold GM at h0
  split at h0
  ·obtain⟨hu,_⟩:=h0
   exact⟨_,fun h K=>DH hu⟩
  ·obtain⟨s,hs,_⟩:=AB h0
   exact⟨_,fun h K=>Ad hs _⟩
  ·split at h0
   ·rename_i hu
    exact⟨.int .i64 0,fun h K=>by simp only[GM,hu]⟩
   ·exact h0.elim
  ·exact(hx _ rfl).elim
  ·exact h0.elim
 by_cases hx: ∃r,x=.map (some r)
 ·obtain⟨r,rfl⟩:=hx
  unfold G0 nG SG at h0
  simp only at h0
  split at h0
  ·rename_i a b es c hu ho
   refine⟨.int .i64 es.size,fun K=>by simp only[G0,nG,hu,ho,SG],fun h K hs=> ?_⟩
   rw[Pk,hu,hs _ _ ho]
   exact Iff.rfl
  ·exact h0.elim
 ·have hx': ∀r,x≠ .map (some r):=fun r e=>hx ⟨r,e⟩
  have e: ∀K,G0 P t x A K=GM P t x #[] K:=by
   intro K
   unfold G0
   split
   ·exact(hx' _ rfl).elim
   ·rfl
  rw[e]at h0
  obtain⟨v,hv⟩:=main x hx' h0
  exact⟨v,fun K=>by rw[e];exact hv _ K,fun h K _=>hv h K⟩
theorem fQ{P:Program}{s d:TypeId}{x:Value}{A:AH}{ν:Nu}{n:Nat}{h:AY}{K:Nu→Nat→Value→AH→Prop}{K':Value→AY→Prop}(st:St ν n A h)
  (f:DK ν n A fun ν'=>KA P s d (P.underlying s) (P.underlying d) x A ν' n K) (hK: ∀v h',Dw K A h v h'→K' v h'):Qq P s d x h K':=by
 have h0:=st.get f
 unfold Qq
 split
 ·rename_i h1 h2
  rw[h1,h2]at h0
  simp only[h1,h2]at f
  cases x<;>first|exact h0.elim|exact hK _ _ (Dw.same st f)
 ·rename_i h1 h2
  rw[h1,h2]at h0
  simp only[h1,h2]at f
  cases x<;>first|exact h0.elim|exact hK _ _ (Dw.same st f)
 ·rename_i h1 h2
  rw[h1,h2]at h0
  simp only[h1,h2]at f
  cases x<;>first|exact h0.elim|exact hK _ _ (Dw.same st f)
 ·rename_i h1 h2 h3
  have e:(∀ν',KA P s d (P.underlying s) (P.underlying d) x A ν' n K=Ef P (convert s d x) A ν' n K)∨(∀ν',KA P s d (P.underlying s) (P.underlying d) x A ν' n K=Js P (convert s d x) A ν' n K):=by
   generalize P.underlying s=us at*
   generalize P.underlying d=ud at*
   by_cases hr:(∃e,us=some (.slice e))∧ud=some .string
   ·obtain⟨⟨e,rfl⟩,rfl⟩:=hr
    exact .inr fun ν'=>rfl
   ·refine .inl fun ν'=> ?_
    unfold KA
    split
    ·exact(h1 _ _ rfl rfl).elim
    ·exact(h2 _ rfl rfl).elim
    ·exact(h3 rfl rfl).elim
    ·exact(hr ⟨⟨_,rfl⟩,rfl⟩).elim
    ·rfl
  rcases e with e|e
  ·exact(K6 st (f.mono fun ν' h1=>(e ν'▸h1))).mono hK
  ·exact(Wi st (f.mono fun ν' h1=>(e ν'▸h1))).mono hK
theorem Xu{P:Program}{t:TypeId}{x:Value}{A:AH}{ν:Nu}{n:Nat}{h:AY}{K:Nu→Nat→Value→AH→Prop}(st:St ν n A h)(f:DK ν n A fun ν'=>J1 P t x A ν' n K):DA P (Instr.range t x) h fun v h'=>Dw K A h v h':=by
 by_cases hx: ∃s,x=.string s
 ·obtain⟨s,rfl⟩:=hx
  have h0:=st.get f
  obtain⟨ν1,s1,f1⟩:=st.alloc (.stringIter s 0) (G:=fun ν' b=>K ν' (n+1) (.pointer (some ⟨b,0,none⟩)) ((b,.stringIter s 0)::A)) (f.mono fun ν' h1=>h1.2)
  exact Kz h0.1 ⟨ν1,n+1,_,s1,Ca.push,f1⟩
 ·have e: ∀ν',J1 P t x A ν' n K=Ef P (Instr.range t x) A ν' n K:=by
   intro ν'
   unfold J1
   split
   ·exact(hx ⟨_,rfl⟩).elim
   ·rfl
  exact K6 st (f.mono fun ν' h1=>(e ν'▸h1))
theorem Zz{P:Program}{x:Value}{b:Bool}{ty:TypeId}{A:AH}{ν:Nu}{n:Nat}{h:AY}{K:Nu→Nat→Value→AH→Prop}(st:St ν n A h)(f:DK ν n A fun ν'=>PY P x b ty A ν' n K):DA P (Instr.next x b ty) h fun v h'=>Dw K A h v h':=by
 by_cases hx: ∃r,x=.pointer (some ⟨r,0,none⟩)∧b=true
 ·obtain⟨r,rfl,rfl⟩:=hx
  have f1:DK ν n A fun ν'=>Lo r (AA A r) A ν' n K:=f
  have h0:=st.get f1
  unfold Lo at h0 f1
  cases ho:AA A r with
  |none=>rw[ho]at h0;exact h0.elim
  | some o=>
   cases o with
   | stringIter s pos=>
    rw[ho]at f1
    refine M4 (st.sat r _ ho) ?_
    split
    ·rename_i hp
     have f2:DK ν n A fun ν'=>K ν' n (.tuple #[.bool true,.int .i64 pos,.int .i32 (Utf8.decode s pos).1]) (Fy A r (.stringIter s (pos+(Utf8.decode s pos).2))):=f1.mono fun ν' h1=>h1.1 (by simpa using hp)
     have hnone: ∀b' u,AA (Fy A r u) b'=none↔AA A b'=none:=by
      intro b' u
      rw[Em]
      by_cases hbb:b'=r
      ·subst hbb;simp[ho]
      ·simp[hbb]
     refine⟨ν,n,_,⟨?_,st.inj,fun i hi=>by simpa using st.old i hi⟩,⟨by simp,fun b' hb' hl=> ?_⟩,fun ν' h1 h2 h3=>f2 ν' h1 h2 fun i hi=>(hnone _ _).1 (h3 i hi)⟩
     ·intro b' o' hl
      rw[Em]at hl
      rw[Array.getElem?_setIfInBounds]
      by_cases hbb:b'=r
      ·subst hbb
       rw[if_pos rfl,ho]at hl
       simp only[Option.map_some,Option.some.injEq]at hl
       subst hl
       have:=st.sat.lt ho
       simp[this]
      ·rw[if_neg hbb]at hl
       rw[if_neg (fun e=>hbb e.symm)]
       exact st.sat _ _ hl
     ·have hbb:b'≠r:=fun e=>by subst e;rw[ho]at hl;cases hl
      rw[Array.getElem?_setIfInBounds,if_neg (fun e=>hbb e.symm)]
      exact⟨rfl,(hnone _ _).2 hl⟩
    ·rename_i hp
     exact Dw.same st (f1.mono fun ν' h1=>h1.2 (by simpa using hp))
   |_=>rw[ho]at h0;exact h0.elim
 ·have e: ∀ν',PY P x b ty A ν' n K=Ef P (Instr.next x b ty) A ν' n K:=by
   intro ν'
   unfold PY
   split
   ·exact(hx ⟨_,rfl,rfl⟩).elim
   ·rfl
  exact K6 st (f.mono fun ν' h1=>(e ν'▸h1))
section
variable {P:Program} {imp:Imp} {nt:Nat} {ν:Nu} {n:Nat} {ρ:Ba} {A:AH} {h:AY} {K:Nu→Nat→Ba→AH→Prop} {X:List PanicEntry→AY→Prop} {K':Ba→AY→Prop}
theorem X5{dst:Option Nat}{v:Value}{K K':Ba→Prop}(h:BJ nt dst v ρ K)(hk: ∀ρ',K ρ'→K' ρ'):BJ nt dst v ρ K':=by
 cases dst with
 |none=>exact hk _ h
 |some d=>exact⟨h.1,hk _ h.2⟩
theorem FE{dst:Option Nat}{h':AY}{v:Value}(hK: ∀ρ' h',ED K A h ρ' h'→K' ρ' h')(p:Dw (fun ν n v A=>BJ nt dst v ρ fun ρ'=>K ν n ρ' A) A h v h'):BJ nt dst v ρ fun ρ'=>K' ρ' h':=
 X5 (mm p) fun ρ' h1=>hK _ _ h1
theorem B8{α:Type}{o:Option α}{v:α}(hv:o=some v){G:Nu→α→Prop}(f:DK ν n A fun ν'=>Ay o (G ν')):DK ν n A fun ν'=>G ν' v:=f.mono fun ν' h1=>(Ad hv _).1 h1
theorem FL{s:Sem Value}{dst:Option Nat}(hK: ∀ρ' h',ED K A h ρ' h'→K' ρ' h')(st:St ν n A h)(f:DK ν n A fun ν'=>Ef P s A ν' n fun ν n u A=>BJ nt dst u ρ fun ρ'=>K ν n ρ' A):DA P s h fun v h'=>BJ nt dst v ρ fun ρ'=>K' ρ' h':=
 (K6 st f).mono fun v h' p=>FE hK p
theorem Hy{s:Sem Value}{dst:Option Nat}(hK: ∀ρ' h',ED K A h ρ' h'→K' ρ' h')(st:St ν n A h)(f:DK ν n A fun ν'=>Js P s A ν' n fun ν n u A=>BJ nt dst u ρ fun ρ'=>K ν n ρ' A):DA P s h fun v h'=>BJ nt dst v ρ fun ρ'=>K' ρ' h':=
 (Wi st f).mono fun v h' p=>FE hK p
theorem Gq{o:Obj}{dst:Option Nat}{V:Nat→Value}(hK: ∀ρ' h',ED K A h ρ' h'→K' ρ' h')(st:St ν n A h)(f:DK ν n A fun ν'=>BJ nt dst (V (ν' n)) ρ fun ρ'=>K ν' (n+1) ρ' ((ν' n,o)::A)):BJ nt dst (V h.size) ρ fun ρ'=>K' ρ' (h.push o):=by
 obtain⟨ν1,s1,f1⟩:=st.alloc o (G:=fun ν' b=>BJ nt dst (V b) ρ fun ρ'=>K ν' (n+1) ρ' ((b,o)::A)) f
 exact FE hK ⟨ν1,n+1,_,s1,Ca.push,f1⟩
theorem GN{o:Oper}(hX: ∀ch h',GG imp.X A h ch h'→X ch h')(hK: ∀ρ' h',ED K A h ρ' h'→K' ρ' h')(st:St ν n A h)(f:DK ν n A fun ν'=>Bz P imp nt o ν' n ρ A K):BZ P nt o ρ h K' X:=by
 obtain⟨dst,op,ty,pos,aft,gd⟩:=o
 have h0:=st.get f
 unfold Bz at h0
 split at h0
 ·
  rename_i g args ts hop
  simp only at hop
  subst hop
  obtain⟨fv,hf,h0⟩:=AB h0
  obtain⟨vs,hv,h0⟩:=AB h0
  have f1:DK ν n A fun ν'=>OX P imp fv vs A ν' n fun ν n v A=>BJ nt dst v ρ fun ρ'=>K ν n ρ' A:=B8 hv (B8 hf f)
  unfold OX at h0
  split at h0
  ·rename_i g fs cs _
   have hc:=fj st (K:=fun ν n v A=>BJ nt dst v ρ fun ρ'=>K ν n ρ' A) f1
   refine(Ad hf _).2 ((Ad hv _).2 ?_)
   show if AD P g=true then _ else _
   unfold E4 at hc
   by_cases hcl:AD P g=true
   ·rw[if_pos hcl]at hc⊢
    refine CallsH.monoP hc ?_ (fun h' hx=>by rcases hx with⟨_,hx,_⟩|⟨_,hx,_⟩<;>cases hx)
    rintro _ h' (⟨v,rfl,p⟩|⟨ch,rfl,p⟩)
    ·exact FE hK p
    ·exact hX _ _ p
   ·rw[if_neg hcl]at hc⊢
    intro w hw
    obtain⟨v,w',h1,h2,⟨u,hu,p⟩|⟨ch,hu,_⟩⟩:=hc w hw
    ·cases hu
     exact⟨v,w',h1,h2,FE hK p⟩
    ·cases hu
  ·exact h0.elim
 ·rename_i t x hop
  simp only at hop
  subst hop
  obtain⟨p,hp,h0⟩:=AB h0
  obtain⟨a,ha,h0⟩:=AB h0
  obtain⟨v,hv,h0⟩:=AB h0
  exact(Ad hp _).2 ((Ad ha _).2 ((Ad (J4 st.sat hv) _).2 (FE hK (Dw.same st (B8 hv (B8 ha (B8 hp f)))))))
 ·rename_i t x y hop
  simp only at hop
  subst hop
  obtain⟨p,hp,h0⟩:=AB h0
  obtain⟨a,ha,h0⟩:=AB h0
  obtain⟨v,hv,h0⟩:=AB h0
  obtain⟨s,hs,h0⟩:=AB h0
  obtain⟨hz,h0⟩:=h0
  obtain⟨A',hw,h0⟩:=AB h0
  obtain⟨h',hw',st',kp,hnone⟩:=me st hw
  have f1:=B8 hs (B8 hv (B8 ha (B8 hp f)))
  have f2:DK ν n A fun ν'=>BJ nt dst undef ρ fun ρ'=>K ν' n ρ' A':=f1.mono fun ν' h1=>(Ad hw _).1 h1.2
  have f3:DK ν n A' fun ν'=>BJ nt dst undef ρ fun ρ'=>K ν' n ρ' A':=fun ν' h1 h2 h3=>f2 ν' h1 h2 fun i hi=>(hnone _).1 (h3 i hi)
  exact(Ad hp _).2 ((Ad ha _).2 ((Ad hv _).2 ((Ad hs _).2 ⟨hz,(Ad hw' _).2 (FE hK ⟨ν,n,A',st',kp,f3⟩)⟩)))
 ·rename_i e hop
  simp only at hop
  subst hop
  obtain⟨z,hz,h0⟩:=AB h0
  exact(Ad hz _).2 (Gq (V:=fun b=>.pointer (some ⟨b,0,none⟩)) hK st (B8 hz f))
 ·rename_i e x hop
  simp only at hop
  subst hop
  obtain⟨z,hz,h0⟩:=AB h0
  exact(Ad hz _).2 (Gq (V:=fun b=>.pointer (some ⟨b,0,none⟩)) hK st (B8 hz f))
 ·rename_i t m ps hop
  simp only at hop
  subst hop
  obtain⟨vs,hv,h0⟩:=AB h0
  obtain⟨r,hr,h0⟩:=AB h0
  exact(Ad hv _).2 ((Ad hr _).2 (Gq (V:=fun b=>.slice (some ⟨b,0,none⟩) m m) hK st (B8 hr (B8 hv f))))
 ·rename_i t hop
  simp only at hop
  subst hop
  exact Gq (V:=fun b=>.map (some b)) hK st f
 ·rename_i s d x hop
  simp only at hop
  subst hop
  obtain⟨v,hv,h0⟩:=AB h0
  exact(Ad hv _).2 (fQ (K:=fun ν n u A=>BJ nt dst u ρ fun ρ'=>K ν n ρ' A) st (B8 hv f) fun v h' p=>FE hK p)
 ·rename_i t l c hop
  simp only at hop
  subst hop
  obtain⟨u,hu,h0⟩:=AB h0
  obtain⟨v,hv,h0⟩:=AB h0
  exact(Ad hu _).2 ((Ad hv _).2 (FL hK st (B8 hv (B8 hu f))))
 ·rename_i t x i ok hop
  simp only at hop
  subst hop
  obtain⟨u,hu,h0⟩:=AB h0
  obtain⟨v,hv,h0⟩:=AB h0
  exact(Ad hu _).2 ((Ad hv _).2 (Hy hK st (B8 hv (B8 hu f))))
 ·rename_i t x i y hop
  simp only at hop
  subst hop
  obtain⟨u,hu,h0⟩:=AB h0
  obtain⟨v,hv,h0⟩:=AB h0
  obtain⟨q,hq,h0⟩:=AB h0
  exact(Ad hu _).2 ((Ad hv _).2 ((Ad hq _).2 (FL hK st (B8 hq (B8 hv (B8 hu f))))))
 ·rename_i t x i y hop
  simp only at hop
  subst hop
  obtain⟨u,hu,h0⟩:=AB h0
  obtain⟨v,hv,h0⟩:=AB h0
  obtain⟨q,hq,h0⟩:=AB h0
  exact(Ad hu _).2 ((Ad hv _).2 ((Ad hq _).2 (FL hK st (B8 hq (B8 hv (B8 hu f))))))
 ·rename_i t x hop
  simp only at hop
  subst hop
  obtain⟨u,hu,h0⟩:=AB h0
  exact(Ad hu _).2 ((Xu (K:=fun ν n u A=>BJ nt dst u ρ fun ρ'=>K ν n ρ' A) st (B8 hu f)).mono fun v h' p=>FE hK p)
 ·rename_i x s hop
  simp only at hop
  subst hop
  obtain⟨u,hu,h0⟩:=AB h0
  exact(Ad hu _).2 ((Zz (K:=fun ν n u A=>BJ nt dst u ρ fun ρ'=>K ν n ρ' A) st (B8 hu f)).mono fun v h' p=>FE hK p)
 ·rename_i x t a ok hop
  simp only at hop
  subst hop
  obtain⟨u,hu,h0⟩:=AB h0
  exact(Ad hu _).2 (Hy hK st (B8 hu f))
 ·rename_i b args ts hop
  simp only at hop
  subst hop
  obtain⟨vs,hv,h0⟩:=AB h0
  have f1:=B8 hv f
  refine(Ad hv _).2 ?_
  split at h0
  ·rename_i v t hts _
   obtain⟨u,h1,h2⟩:=S8 h0
   simp only[hts]
   refine(h2 h (fun u=>BJ nt dst u ρ fun ρ'=>K' ρ' h) st.sat).2 (FE hK (Dw.same st (f1.mono fun ν' h3=> ?_)))
   simp only[hts]at h3
   exact(h1 _).1 h3
  ·exact FL hK st f1
  ·exact Hy hK st f1
  ·exact FL hK st f1
  ·exact FL hK st f1
  ·exact FL hK st f1
  ·exact Hy hK st f1
  ·exact FL hK st f1
  ·exact FE hK (Dw.same st f1)
  ·exact FE hK (Dw.same st f1)
  ·exact h0.elim
 ·rename_i x hop
  simp only at hop
  subst hop
  obtain⟨v,hv,h0⟩:=AB h0
  unfold pt at h0
  split at h0
  ·rename_i X0 t u hx
   exact(Ad hv _).2 (hX _ _ ⟨X0,A,hx,st.sat,Ca.refl _ _,h0⟩)
  ·exact h0.elim
 ·rename_i n1 n2 n3 n4 n5 n6 n7 n8 n9 n10 n11 n12 n13 n14 n15 n16 n17
  simp only at n1 n2 n3 n4 n5 n6 n7 n8 n9 n10 n11 n12 n13 n14 n15 n16 n17
  obtain⟨hfr,h0⟩:=h0
  have e: ∀ν',Bz P imp nt ⟨dst,op,ty,pos,aft,gd⟩ ν' n ρ A K=Bf (J8 P op=true) (BZ P nt ⟨dst,op,ty,pos,aft,gd⟩ ρ #[] (fun ρ' _=>K ν' n ρ' A) fun _ _=>False):=by
   intro ν'
   unfold Bz
   split
   all_goals first|rfl|(rename_i hop;simp only at hop;subst hop;first|(cases hfr;done)|exact(n8 _ _ _ rfl).elim)
  have f1:=f.mono fun ν' h1=>(e ν'▸h1).2
  have hcall: ∀c,op≠ .call c:=fun c hc=>by subst hc;cases hfr
  have hpan: ∀x,op≠ .panic x:=fun c hc=>by subst hc;cases hfr
  have ew: ∀(h:AY) (K:Ba→AY→Prop) (X:List PanicEntry→AY→Prop),BZ P nt ⟨dst,op,ty,pos,aft,gd⟩ ρ h K X=HL P op ty ρ h fun v h'=>BJ nt dst v ρ fun ρ'=>K ρ' h':=by
   intro h K X
   unfold BZ
   split
   ·exact absurd ‹_› (hcall _)
   ·exact absurd ‹_› (hpan _)
   ·rfl
  rw[ew]at h0⊢
  obtain⟨v,hv⟩:=l7 hfr n8 h0
  refine(hv h _).2 (FE hK (Dw.same st (f1.mono fun ν' h1=> ?_)))
  rw[ew]at h1
  exact(hv #[] _).1 h1
theorem ED.same'{ρ':Ba}(st:St ν n A h)(f:DK ν n A fun ν'=>K ν' n ρ' A):ED K A h ρ' h:=⟨ν,n,A,st,Ca.refl _ _,f⟩
theorem MU{all:List Oper}: ∀(m:Nat) (cur:Option (Nat×Bool)) (l:List Oper) (ρ:Ba) (A:AH) (n:Nat) (ν:Nu) (h:AY) (K:Nu→Nat→Ba→AH→Prop) (K':Ba→AY→Prop),
  (∀ch h',GG imp.X A h ch h'→X ch h')→(∀ρ' h',ED K A h ρ' h'→K' ρ' h')→St ν n A h→DK ν n A (fun ν'=>Bd P imp nt all m cur l ν' n ρ A K)→B7 P nt all m cur l ρ h K' X:=by
 intro m
 induction m with
 |zero=>intro cur l ρ A n ν h K K' hX hK st f;exact(st.get f).elim
 | succ m ih=>
  intro cur l ρ A n ν h K K' hX hK st f
  cases l with
  |nil=>exact hK _ _ (ED.same' st f)
  | cons o l=>
   have h0:=st.get f
   unfold Bd at h0
   unfold B7
   by_cases hg:o.guard=cur
   ·rw[if_pos hg]
    have f1:DK ν n A fun ν'=>Bz P imp nt o ν' n ρ A fun ν n ρ' A=>Bd P imp nt all m cur l ν n ρ' A K:=f.mono fun ν' h1=>by
     unfold Bd at h1;rw[if_pos hg]at h1;exact h1
    refine GN hX (fun ρ1 h1 p=> ?_) st f1
    obtain⟨ν1,n1,A1,st1,kp,f1⟩:=p
    exact ih cur l ρ1 A1 n1 ν1 h1 K K' (fun ch h' p=>hX _ _ (p.from kp)) (fun ρ' h' p=>hK _ _ (p.from kp)) st1 f1
   ·rw [if_neg hg]at h0⊢
    split at h0
    ·exact h0.elim
    ·rename_i j want hgd
     obtain⟨s,hs,h0⟩:=AB h0
     obtain⟨v,hv,h0⟩:=AB h0
     cases v with
     | bool b=>
      obtain⟨hok,h0⟩:=h0
      have f1:DK ν n A fun ν'=>(match EC (Bl cur (o::l)),CJ cur (o::l)with
        |true,p::after=>match Cs want s p.op with
         |some y=>Bd P imp nt all m (some (j,want)) (Bl cur (o::l)) ν' n ρ A fun ν n ρ' A=>Ay (BE ρ' y) fun c=>C9 nt p.dst want b c (DR (Bl cur (o::l)) ρ) fun ρ''=>Bd P imp nt all m cur after ν n ρ'' A K
         |none=>False
        |_,after=>Jx (b==want) (Bd P imp nt all m (some (j,want)) (Bl cur (o::l)) ν' n ((s,some (.bool want))::ρ) A fun ν n ρ' A=>Bd P imp nt all m cur after ν n ρ' A K) (Bd P imp nt all m cur after ν' n (DR (Bl cur (o::l)) ((s,some (.bool (!want)))::ρ)) A K)):=f.mono fun ν' h1=>by
       unfold Bd at h1
       rw[if_neg hg,hgd]at h1
       simp only at h1
       exact((Ad hv _).1 ((Ad hs _).1 h1)).2
      rw[hgd]
      refine(Ad hs _).2 ((Ad hv _).2 ⟨hok, ?_⟩)
      generalize hgr:Bl cur (o::l)=g at*
      generalize haf:CJ cur (o::l)=aft at*
      cases hpu:EC g with
      | true=>
       cases aft with
       | cons p after=>
        simp only[hpu]at f1 h0⊢
        cases hy:Cs want s p.op with
        |none=>simp only[hy]at h0
        | some y=>
         simp only[hy]at f1⊢
         refine ih _ _ _ _ _ _ _ _ _ hX (fun ρ1 h1 p1=> ?_) st f1
         obtain⟨ν1,n1,A1,st1,kp,f2⟩:=p1
         obtain⟨c,hc,_⟩:=AB (st1.get f2)
         have f3:=B8 hc f2
         refine(Ad hc _).2 ?_
         have h3:=st1.get f3
         unfold C9 at h3 f3⊢
         cases c with
         | bool c=>
          simp only at h3 f3⊢
          cases hd:p.dst with
          |none=>
           rw[hd]at f3
           exact ih _ _ _ _ _ _ _ _ _ (fun ch h' q=>hX _ _ (q.from kp)) (fun ρ' h' q=>hK _ _ (q.from kp)) st1 f3
          |some d=>
           rw[hd]at f3 h3
           exact⟨h3.1,ih _ _ _ _ _ _ _ _ _ (fun ch h' q=>hX _ _ (q.from kp)) (fun ρ' h' q=>hK _ _ (q.from kp)) st1 (f3.mono fun ν' q=>q.2)⟩
         |_=>exact h3.elim
       | nil=>
        simp only[hpu]at f1 h0⊢
        refine⟨fun q=> ?_,fun q=> ?_⟩
        ·refine ih _ _ _ _ _ _ _ _ _ hX (fun ρ1 h1 p1=> ?_) st (f1.mono fun ν' h1=>h1.1 q)
         obtain⟨ν1,n1,A1,st1,kp,f2⟩:=p1
         exact ih _ _ _ _ _ _ _ _ _ (fun ch h' q=>hX _ _ (q.from kp)) (fun ρ' h' q=>hK _ _ (q.from kp)) st1 f2
        ·exact ih _ _ _ _ _ _ _ _ _ hX hK st (f1.mono fun ν' h1=>h1.2 q)
      | false=>
       simp only[hpu]at f1 h0⊢
       refine⟨fun q=> ?_,fun q=> ?_⟩
       ·refine ih _ _ _ _ _ _ _ _ _ hX (fun ρ1 h1 p1=> ?_) st (f1.mono fun ν' h1=>h1.1 q)
        obtain⟨ν1,n1,A1,st1,kp,f2⟩:=p1
        exact ih _ _ _ _ _ _ _ _ _ (fun ch h' q=>hX _ _ (q.from kp)) (fun ρ' h' q=>hK _ _ (q.from kp)) st1 f2
       ·exact ih _ _ _ _ _ _ _ _ _ hX hK st (f1.mono fun ν' h1=>h1.2 q)
     |_=>exact h0.elim
end
end Go.Vm
