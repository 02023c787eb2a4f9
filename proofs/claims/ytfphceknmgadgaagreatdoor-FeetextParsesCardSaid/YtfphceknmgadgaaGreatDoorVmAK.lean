/-
The second evaluator is sound: code, loops and whole calls.
Conditions: none. Generic: it speaks of no program.
-/
import Derived.Test.YtfphceknmgadgaaGreatDoorVmAH
set_option linter.unusedSimpArgs false
set_option linter.unusedVariables false
namespace Go.Vm
theorem Ga{P:Program}{imp:Imp}{plans:List (Nat×Pln)}{id:Nat}: ∀{k k':List It},Cu id k=some k'→Ow P imp plans k=true→Ow P imp plans k'=true
 | [],_,h,_=>by cases h
 | .blk i::k,k',h,hk=>by
  simp only[Ow,Bool.and_eq_true]at hk
  unfold Cu at h
  split at h
  ·cases h;exact hk.2
  ·exact Ga h hk.2
 | .code x::k,k',h,hk=>by simp only[Ow,Bool.and_eq_true]at hk;exact Ga (by simpa[Cu]using h) hk.2
 | .lp x::k,k',h,hk=>by simp only[Ow,Bool.and_eq_true]at hk;exact Ga (by simpa[Cu]using h) hk.2
 | .sc x::k,k',h,hk=>by simp only[Ow,Bool.and_eq_true]at hk;exact Ga (by simpa[Cu]using h) hk.2
theorem Xo[dd:DefD]{P:Program}{nt:Nat}{sp:Bool}{all:List Oper}{ν:Nu}{n:Nat}{A:AH}{h:AY}(st:St ν n A h): ∀{m:Nat} {cur:Option (Nat×Bool)} {l:List Oper} {ρ:Ba} {K:Nu→Ba→Prop} {K':Ba→Prop},
  (∀ρ',DK ν n A (fun ν'=>K ν' ρ')→K' ρ')→DK ν n A (fun ν'=>B6 P nt sp all A m cur l ρ (K ν'))→B6 P nt sp all A m cur l ρ K':=by
 intro m
 induction m with
 |zero=>intro cur l ρ K K' hK f;exact(st.get f).elim
 | succ m ih=>
  intro cur l ρ K K' hK f
  cases l with
  |nil=>exact hK _ f
  | cons o l=>
   have h0:=st.get f
   unfold B6 at h0⊢
   by_cases hg:o.guard=cur
   ·rw[if_pos hg]at h0⊢
    have f1:DK ν n A fun ν'=>B4 P nt o ρ A fun ρ'=>B6 P nt sp all A m cur l ρ' (K ν'):=f.mono fun ν' h1=>by
     unfold B6 at h1;rw[if_pos hg]at h1;exact h1
    obtain⟨v,hv,_⟩:=EH h0
    refine(hv _).2 ?_
    have f2:DK ν n A fun ν'=>BJ nt o.dst v ρ fun ρ'=>B6 P nt sp all A m cur l ρ' (K ν'):=f1.mono fun ν' h1=>(hv _).1 h1
    cases hd:o.dst with
    |none=>rw[hd]at f2;exact ih hK f2
    |some d=>rw[hd]at f2;exact⟨(st.get f2).1,ih hK (f2.mono fun ν' h1=>h1.2)⟩
   ·rw [if_neg hg]at h0⊢
    cases hgd:o.guard with
    |none=>rw[hgd]at h0;exact h0.elim
    | some jw=>
     obtain⟨j,want⟩:=jw
     rw[hgd]at h0
     simp only at h0⊢
     obtain⟨s,hs,h0⟩:=AB h0
     obtain⟨v,hv,h0⟩:=AB h0
     cases v with
     | bool b=>
      obtain⟨hok,h0⟩:=h0
      have f1:DK ν n A fun ν'=>(match FF sp (Bl cur (o::l)),CJ cur (o::l)with
        |true,p::after=>match Cs want s p.op with
         |some y=>B6 P nt sp all A m (some (j,want)) (Bl cur (o::l)) ρ (fun ρ'=>Ay (BE ρ' y) fun c=>C9 nt p.dst want b c (DR (Bl cur (o::l)) ρ) fun ρ''=>B6 P nt sp all A m cur after ρ'' (K ν'))
         |none=>False
        |_,after=>Jx (b==want) (B6 P nt sp all A m (some (j,want)) (Bl cur (o::l)) ((s,some (.bool want))::ρ) (fun ρ'=>B6 P nt sp all A m cur after ρ' (K ν'))) (B6 P nt sp all A m cur after (DR (Bl cur (o::l)) ((s,some (.bool (!want)))::ρ)) (K ν'))):=f.mono fun ν' h1=>by
       unfold B6 at h1
       rw[if_neg hg,hgd]at h1
       simp only at h1
       exact((Ad hv _).1 ((Ad hs _).1 h1)).2
      refine(Ad hs _).2 ((Ad hv _).2 ⟨hok, ?_⟩)
      generalize hgr:Bl cur (o::l)=g at*
      generalize haf:CJ cur (o::l)=aft at*
      cases hpu:FF sp g with
      | true=>
       cases aft with
       | cons p after=>
        simp only[hpu]at f1 h0⊢
        cases hy:Cs want s p.op with
        |none=>simp only[hy]at h0
        | some y=>
         simp only[hy]at f1⊢
         refine ih (K:=fun ν' ρ'=>Ay (BE ρ' y) fun c=>C9 nt p.dst want b c (DR g ρ) fun ρ''=>B6 P nt sp all A m cur after ρ'' (K ν')) (fun ρ' f3=> ?_) f1
         obtain⟨c,hc,h3⟩:=AB (st.get f3)
         refine(Ad hc _).2 ?_
         have f4:=B8 hc f3
         unfold C9 at h3 f4⊢
         cases c with
         |bool c=>
          simp only at h3 f4⊢
          cases hd:p.dst with
          |none=>rw[hd]at f4;exact ih hK f4
          |some d=>rw[hd]at f4;exact⟨(st.get f4).1,ih hK (f4.mono fun ν' h1=>h1.2)⟩
         |_=>exact h3.elim
       |nil=>
        simp only[hpu]at f1 h0⊢
        refine⟨fun q=> ?_,fun q=>ih hK (f1.mono fun ν' h1=>h1.2 q)⟩
        exact ih (K:=fun ν' ρ'=>B6 P nt sp all A m cur [] ρ' (K ν')) (fun ρ' f2=>ih hK f2) (f1.mono fun ν' h1=>h1.1 q)
      |false=>
       simp only[hpu]at f1 h0⊢
       refine⟨fun q=> ?_,fun q=>ih hK (f1.mono fun ν' h1=>h1.2 q)⟩
       exact ih (K:=fun ν' ρ'=>B6 P nt sp all A m cur aft ρ' (K ν')) (fun ρ' f2=>ih hK f2) (f1.mono fun ν' h1=>h1.1 q)
     |_=>exact h0.elim
theorem Pj[dd:DefD](c:CxA): ∀(N:Nat) (k:List It) (ρ:Ba) (A:AH) (n:Nat) (ν:Nu) (h:AY),Ow c.P c.imp c.plans k=true→Jo k≤N→St ν n A h→DK ν n A (fun ν'=>Bi c k ν' n ρ A)→ ∀A0 h0,Ca A0 h0 A h→C8 (c.cx A0 h0) k ρ h:=by
 intro N
 induction N with
 | zero=>
  intro k ρ A n ν h hok hN st f A0 h0 kp
  have:k=[]:=by
   cases k with
   |nil=>rfl
   |cons x k=>
    simp only[Jo]at hN
    have:0<Ma x:=by cases x<;>simp[Ma];rename_i c;cases c<;>simp[HW]
    omega
  subst this
  have h1:=st.get f
  rw[Bi]at h1
  rw[C8]
  obtain⟨vs,hv,hR⟩:=AB h1
  exact(Ad (GW st.sat hv) _).2 (SV ⟨_,A,rfl,st.sat,kp,hR⟩)
 | succ N ih=>
  intro k ρ A n ν h hok hN st f A0 h0 kp
  have ret:(∀ν',Bi c k ν' n ρ A=XX c ρ A)→C8 (c.cx A0 h0) k ρ h=Tr (c.cx A0 h0) ρ h→C8 (c.cx A0 h0) k ρ h:=by
   intro e1 e2
   have h1:=st.get f
   rw[e1]at h1
   rw[e2]
   obtain⟨vs,hv,hR⟩:=AB h1
   exact(Ad (GW st.sat hv) _).2 (SV ⟨_,A,rfl,st.sat,kp,hR⟩)
  cases k with
  |nil=>exact ret (fun ν'=>by rw[Bi]) (by rw[C8])
  | cons x k=>
   simp only[Jo]at hN
   simp only[Ow,Bool.and_eq_true]at hok
   obtain⟨hx,hok⟩:=hok
   cases x with
   |blk id=>
    rw[C8]
    exact ih k ρ A n ν h hok (by simp only[Ma]at hN;omega) st (f.mono fun ν' h1=>by rw[Bi]at h1;exact h1) A0 h0 kp
   |sc y=>
    rw[C8]
    exact ih k ρ A n ν h hok (by simp only[Ma]at hN;omega) st (f.mono fun ν' h1=>by rw[Bi]at h1;exact h1) A0 h0 kp
   |lp y=>
    rw[C8]
    have h1:=st.get f
    rw[Bi]at h1
    exact h1 A0 h0 h st.sat kp
   | code y=>
    simp only[Ma]at hN
    cases y with
    |skip=>
     rw[C8]
     exact ih k ρ A n ν h hok (by simp only[HW]at hN;omega) st (f.mono fun ν' h1=>by rw[Bi]at h1;exact h1) A0 h0 kp
    |label l=>
     rw[C8]
     exact ih k ρ A n ν h hok (by simp only[HW]at hN;omega) st (f.mono fun ν' h1=>by rw[Bi]at h1;exact h1) A0 h0 kp
    |ret=>exact ret (fun ν'=>by rw[Bi]) (by rw[C8])
    |seq x y=>
     rw[C8]
     exact ih (.code x:: .code y::k) ρ A n ν h (by simp only[Xk,Q8,Bool.and_eq_true]at hx;simp only[Ow,Xk,hx,hok,Bool.and_self]) (by simp only[HW,Jo,Ma]at hN ⊢;omega) st (f.mono fun ν' h1=>by rw[Bi]at h1;exact h1) A0 h0 kp
    |block id x=>
     rw[C8]
     exact ih (.code x:: .blk id::k) ρ A n ν h (by simp only[Xk,Q8]at hx;simp only[Ow,Xk,hx,hok,Bool.and_self]) (by simp only[HW,Jo,Ma]at hN ⊢;omega) st (f.mono fun ν' h1=>by rw[Bi]at h1;exact h1) A0 h0 kp
    |scope x=>
     rw[C8]
     exact ih (.code x:: .sc x::k) ρ A n ν h (by simp only[Xk,Q8]at hx;simp only[Ow,Xk,hx,hok,Bool.and_self]) (by simp only[HW,Jo,Ma]at hN ⊢;omega) st (f.mono fun ν' h1=>by rw[Bi]at h1;exact h1) A0 h0 kp
    |loop x=>
     rw[C8]
     have h1:=st.get f
     rw[Bi]at h1
     exact h1 A0 h0 h st.sat kp
    | exit id=>
     have h1:=st.get f
     rw[Bi]at h1
     rw[C8]
     split at h1
     ·rename_i k' hk'
      split
      ·rename_i k2 hk2
       rw[hk']at hk2
       cases hk2
       refine ih k' ρ A n ν h (Ga hk' hok) (by have:=EM _ _ _ hk';simp only[HW]at hN;omega) st (f.mono fun ν' h2=> ?_) A0 h0 kp
       rw[Bi]at h2
       split at h2
       ·rename_i k3 hk3;rw[hk']at hk3;cases hk3;exact h2
       ·exact h2.elim
      ·rename_i hno;rw[hk']at hno;cases hno
     ·exact h1.elim
    | cond x t e=>
     have h1:=st.get f
     rw[Bi]at h1
     rw[C8]
     obtain⟨v,hv,h1⟩:=AB h1
     refine(Ad hv _).2 ?_
     have f1:DK ν n A fun ν'=>QG v (Bi c (.code t::k) ν' n ρ A) (Bi c (.code e::k) ν' n ρ A):=f.mono fun ν' h2=>by
      rw[Bi]at h2;exact(Ad hv _).1 h2
     unfold QG at h1 f1⊢
     split at h1
     ·rename_i q _
      refine⟨fun hq=> ?_,fun hq=> ?_⟩
      ·exact ih (.code t::k) ρ A n ν h (by simp only[Xk,Q8,Bool.and_eq_true]at hx;simp only[Ow,Xk,hx,hok,Bool.and_self]) (by simp only[HW,Jo,Ma]at hN ⊢;omega) st (f1.mono fun ν' h2=>h2.1 hq) A0 h0 kp
      ·exact ih (.code e::k) ρ A n ν h (by simp only[Xk,Q8,Bool.and_eq_true]at hx;simp only[Ow,Xk,hx,hok,Bool.and_self]) (by simp only[HW,Jo,Ma]at hN ⊢;omega) st (f1.mono fun ν' h2=>h2.2 hq) A0 h0 kp
     ·exact h1.elim
    | region id ops draw=>
     cases draw with
     | true=>
      rw[C8]
      have go:(∀(w:World) (b:Frame) (a:Act),w.heap=h→c.P.funcs[c.f]? =some c.fn→b.fn=c.f→b.kind=DefD.kd→CV c.n (canon c.live ρ) a→
        (Code.region id ops true).wp c.P (fun e a' w'=>match e with| .normal=>DQ c.P b (k.map It.item) a' w' (fun e w'=>(c.cx A0 h0).R e w'.heap∧BV w w')| .panic ch=>a'.defers=DefD.ds∧((c.cx A0 h0).R (.panicked ch) w'.heap∧BV w w')|_=>False) a w)→ @Gg dd (c.cx A0 h0) (.code (.region id ops true)::k) (canon c.live ρ) h ():=by
       intro hw hf b a w hb hn hk hwh
       exact .of_wp (hw w b a hwh hf hb hn hk) ⟨c.fn,by rw[hb];exact hf⟩ (fun e a' w' hq=>hq)
      simp only[Xk,Q8]at hx
      cases hp:F4 c.plans id with
      |none=>
       have h1:=st.get f
       rw[Bi,hp]at h1
       exact h1 A0 h0 h st.sat kp
      | some p=>
       cases p with
       | q sp=>
        rw[hp]at hx
        simp only[Bool.and_eq_true]at hx
        have f1:DK ν n A fun ν'=>B6 c.P c.n sp ops.toList A 400 none ops.toList (canon c.live ρ) (fun ρ'=>Bi c k ν' n ρ' A):=f.mono fun ν' h1=>by
         rw[Bi,hp]at h1;exact h1
        refine go fun w b a hw hf hb hn hk=> ?_
        let C:World→Prop:=fun w'=>DO A w'.heap∧Ca A0 h0 A w'.heap∧BV w w'∧St ν n A w'.heap
        have hC:Mb A C:=fun w1 ⟨q1,q2,q3,q4⟩=>⟨q1,fun w2 g r=>⟨q1.grew g,q2.trans (Ca.grew g),q3.trans r,q4.grew g⟩⟩
        subst hw
        refine wp_region_quiet (C:=C) hx.1 hx.2 ⟨st.sat,kp,⟨rfl,rfl,rfl⟩,st⟩ ?_
        have:=KS (P:=c.P) (n:=c.n) (all:=ops.toList) (A:=A) (C:=C) (Q:=fun a'=> ∀w',C w'→DQ c.P b (k.map It.item) a' w' (fun e w'=>(c.cx A0 h0).R e w'.heap∧BV w w')) hC 400 none ops.toList (canon c.live ρ) (fun ρ'=>DK ν n A fun ν'=>Bi c k ν' n ρ' A) a [] (Xo st (fun _ h=>h) f1) hk trivial
         (fun ρ' a' k1 k2 _=>wpQuiet_nil (fun w' hw'=>Df (c.cx A0 h0) _ _ _ _ (Nat.le_refl _) (ih k ρ' A n ν w'.heap hok (by simp only[HW]at hN;omega) hw'.2.2.2 k1 A0 h0 hw'.2.1) w hf b a' w' hb hn k2 rfl hw'.2.2.1))
        rw[List.append_nil]at this
        simpa using this
       | p pl=>
        rw[hp]at hx
        simp only[Bool.and_eq_true,beq_iff_eq]at hx
        obtain⟨hm,hs,hl,hrs,hpl⟩:=hx
        have f1:DK ν n A fun ν'=>DM c.P c.imp c.n ops.toList pl A ν' n (canon c.live ρ) A (fun ν n ρ' A=>Bi c k ν n ρ' A):=f.mono fun ν' h1=>by
         rw[Bi,hp]at h1;exact h1
        refine go fun w b a hw hf hb hn hk=> ?_
        subst hw
        refine wp_region_any hm (E2 (Inv:=EB A0 h0 w) (le:=GH) (rs:=HZ pl) (QA:=fun a' s=> ∃ρ',CV c.n ρ' a'∧DK s.ν s.n s.A fun ν'=>Bi c k ν' s.n ρ' s.A) ?_ _ _ _ ⟨A,ν,n,A⟩ _ ⟨st,kp,⟨rfl,rfl,rfl⟩,SubA.refl A⟩ ?_)
        ·rintro a' s w' ⟨ρ',hk',f⟩ ⟨h1,h2,h3,_⟩
         exact Df (c.cx A0 h0) _ _ _ _ (Nat.le_refl _) (ih k ρ' s.A s.n s.ν w'.heap hok (by simp only[HW]at hN;omega) h1 f A0 h0 h2) w hf b a' w' hb hn hk' rfl h3
        ·have:=GV (P:=c.P) (imp:=c.imp) (nt:=c.n) (all:=ops.toList) (A0:=A0) (h0:=h0) (w0:=w) (rs:=HZ pl) (K:=fun ν n ρ' A=>Bi c k ν n ρ' A)
          (Q:=fun e a' w'=>match e with| .normal=>DQ c.P b (k.map It.item) a' w' (fun e w'=>(c.cx A0 h0).R e w'.heap∧BV w w')| .panic ch=>a'.defers=DefD.ds∧((c.cx A0 h0).R (.panicked ch) w'.heap∧BV w w')|_=>False)
          (fun ch a' w' h1 h2 h3=>⟨h1,Ho h2,h3⟩) (by simpa using hs) (by simpa using hrs) (fun c' a' w' dst v hq=>⟨by have h1:=hq.1;cases dst<;>exact h1,hq.2⟩) (QA:=fun a' s=> ∃ρ',CV c.n ρ' a'∧DK s.ν s.n s.A fun ν'=>Bi c k ν' s.n ρ' s.A) (fun ρ' a' A' ν' n' As' hk' f=>⟨ρ',hk',f⟩)
          pl (Array.replicate ops.size false) (canon c.live ρ) a A A ν n (by simpa using hpl) hk st.inj ⟨w.heap,st⟩ f1
         rw[hl]at this
         simpa using this
     |false=>
      rw[C8]
      refine MU (K:=fun ν n ρ' A=>Bi c k ν n ρ' A) _ _ _ _ _ _ _ _ _ (fun ch h' p=>Ho (p.from kp)) (fun ρ' h' p=> ?_) st (f.mono fun ν' h1=>by rw[Bi]at h1;exact h1)
      obtain⟨ν1,n1,A1,st1,kp1,f1⟩:=p
      exact ih k ρ' A1 n1 ν1 h' hok (by simp only[HW]at hN;omega) st1 f1 A0 h0 (kp.trans kp1)
    |rangeFunc _ _ _ _=>have h1:=st.get f;unfold Bi at h1;exact h1.elim
    |goto _=>have h1:=st.get f;unfold Bi at h1;exact h1.elim
    |refuse _=>have h1:=st.get f;unfold Bi at h1;exact h1.elim
theorem GS[dd:DefD]{c:CxA}{k:List It}{ρ:Ba}{A:AH}{h:AY}(hok:Ow c.P c.imp c.plans k=true)(hs:DO A h)(hd: ∀ν,DN ν A→Bi c k ν 0 ρ A){A0:AH}{h0:AY}(kp:Ca A0 h0 A h):C8 (c.cx A0 h0) k ρ h:=
 Pj c _ k ρ A 0 _ h hok (Nat.le_refl _) (St.start hs) (DK.fresh hd) A0 h0 kp
theorem Ah.intro[dd:DefD]{c:CxA}{body:Code}{k:List It}{ρ:Ba}{A:AH}(hok:Ow c.P c.imp c.plans (.code body:: .lp body::k)=true)(hd: ∀ν,DN ν A→Bi c (.code body:: .lp body::k) ν 0 ρ A): @Ah dd c body k ρ A ():=fun A0 h0 h hs kp=>
 Bh.intro (GS hok hs hd kp)
attribute [instance] dd0
theorem G7(c:CxA){code:Code}{args:List Value}{A:AH}(hf:c.P.funcs[c.f]? =some c.fn)(hb:c.fn.body=some code)(hcl:AD c.P c.f=true)(hn:c.fn.ntmps=c.n)(ha:args.length≤c.n)(hok:Q8 c.P c.imp c.plans code=true)
  (hd: ∀ν,DN ν A→Bi c [.code code] ν 0 (J3 0 args) A):JF c.imp.X c.P c.f args.toArray A c.R:=by
 have hh: ∀h,DO A h→E4 c.P c.f args.toArray h (Z0 c.imp.X A h c.R):=fun h hs=>by
  unfold E4
  rw[if_pos hcl]
  exact BO (c.cx A h) hf hb hn ha (GS (by simp only[Ow,Xk,hok,Bool.and_self]) hs hd (Ca.refl A h))
 unfold JF
 unfold Z0 at hh
 cases hx:c.imp.X with
 |none=>rw[hx]at hh;exact hh
 |some X=>rw[hx]at hh;exact hh
theorem AR(c:CxA)(hx:c.imp.X=none){code:Code}{args:List Value}{A:AH}(hf:c.P.funcs[c.f]? =some c.fn)(hb:c.fn.body=some code)(hcl:AD c.P c.f=true)(hn:c.fn.ntmps=c.n)(ha:args.length≤c.n)(hok:Q8 c.P c.imp c.plans code=true)
  (hd: ∀ν,DN ν A→Bi c [.code code] ν 0 (J3 0 args) A):AM c.P c.f args.toArray A c.R:=by
 have:=G7 c hf hb hcl hn ha hok hd
 unfold JF at this
 rw[hx]at this
 exact this
theorem Bb(c:CxA){X:List PanicEntry→AH→Prop}(hx:c.imp.X=some X){code:Code}{args:List Value}{A:AH}(hf:c.P.funcs[c.f]? =some c.fn)(hb:c.fn.body=some code)(hcl:AD c.P c.f=true)(hn:c.fn.ntmps=c.n)(ha:args.length≤c.n)(hok:Q8 c.P c.imp c.plans code=true)
  (hd: ∀ν,DN ν A→Bi c [.code code] ν 0 (J3 0 args) A):AZ c.P c.f args.toArray A X c.R:=by
 have:=G7 c hf hb hcl hn ha hok hd
 unfold JF at this
 rw[hx]at this
 exact this
theorem AZ.of{P:Program}{g:FuncId}{args:Array Value}{A:AH}{X:List PanicEntry→AH→Prop}{K:Value→AH→Prop}(hc:AM P g args A K):AZ P g args A X K:=fun h hs=>(hc h hs).mono fun e h' h1=>.inl h1
theorem AZ.mono{P:Program}{g:FuncId}{args:Array Value}{A:AH}{X X':List PanicEntry→AH→Prop}{K K':Value→AH→Prop}(hc:AZ P g args A X K)(hx: ∀ch A',X ch A'→X' ch A')(hk: ∀v A',K v A'→K' v A'):AZ P g args A X' K':=fun h hs=>
 (hc h hs).mono fun e h' h0=>by
  rcases h0 with⟨v,A',h1,h2,h3,h4⟩|⟨ch,A',h1,h2,h3,h4⟩
  ·exact .inl ⟨v,A',h1,h2,h3,hk _ _ h4⟩
  ·exact .inr ⟨ch,A',h1,h2,h3,hx _ _ h4⟩
theorem AM.mono{P:Program}{g:FuncId}{args:Array Value}{A:AH}{K K':Value→AH→Prop}(hc:AM P g args A K)(hk: ∀v A',K v A'→K' v A'):AM P g args A K':=fun h hs=>
 (hc h hs).mono fun e h' ⟨v,A',h1,h2,h3,h4⟩=>⟨v,A',h1,h2,h3,hk _ _ h4⟩
theorem CN{P:Program}{g:FuncId}{args:Array Value}{A:AH}{v:Value}(hi:P.inits.idxOf? g=none)(hc:AM P g args [] fun u _=>u=v):JT P g args A v:=
 ⟨fun _=>hi,fun h hs=>(hc h (DO.nil h)).mono fun e h' ⟨u,A',h1,_,h3,h4⟩=>⟨by rw[h1,h4],h3.to_grew⟩⟩
theorem Ct{P:Program}{g:FuncId}{args:Array Value}{A A0:AH}{v:Value}(hi:P.inits.idxOf? g=none)(hc:AM P g args A0 fun u A'=>u=v∧SubA A0 A')(hs:SubA A0 A):JT P g args A v:=
 ⟨fun _=>hi,fun h hA=>(hc h (hA.sub hs)).mono fun e h' ⟨u,A',h1,h2,h3,h4,h5⟩=>⟨by rw[h1,h4],h3.1,fun b hb=>by
  cases hl:AA A0 b with
  |none=>exact(h3.2 b hb hl).1
  |some o=>rw[h2 b o (h5 b o hl),hA.sub hs b o hl]⟩⟩
theorem CO.quiet[dd:DefD](sp:Bool){c:CxA}{id:Nat}{l:List Oper}{k:List It}{ρ:Ba}{A:AH}(hm:c.P.follows .mixedOrders=true)(hB:Region.lexB .any l.toArray=true)(hok:Ow c.P c.imp c.plans k=true)
  (hd:B6 c.P c.n sp l A 400 none l ρ fun ρ'=> ∀ν,DN ν A→Bi c k ν 0 ρ' A): @CO dd c (.code (.region id l.toArray true)::k) ρ A ():=by
 intro A0 h0 h hs kp hf b a w hb hn hk hw
 refine .of_wp (Q:=fun e a' w'=>match e with| .normal=>DQ c.P b (k.map It.item) a' w' (fun e w'=>(c.cx A0 h0).R e w'.heap∧BV w w')| .panic ch=>a'.defers=DefD.ds∧((c.cx A0 h0).R (.panicked ch) w'.heap∧BV w w')|_=>False) ?_ ⟨c.fn,by rw[hb];exact hf⟩ (fun e a' w' hq=>hq)
 let C:World→Prop:=fun w'=>DO A w'.heap∧Ca A0 h0 A w'.heap∧BV w w'
 have hC:Mb A C:=fun w1 ⟨q1,q2,q3⟩=>⟨q1,fun w2 g r=>⟨q1.grew g,q2.trans (Ca.grew g),q3.trans r⟩⟩
 subst hw
 refine wp_region_quiet (C:=C) hm hB ⟨hs,kp,rfl,rfl,rfl⟩ ?_
 have:=KS (C:=C) (Q:=fun a'=> ∀w',C w'→DQ c.P b (k.map It.item) a' w' (fun e w'=>(c.cx A0 h0).R e w'.heap∧BV w w')) hC 400 none l ρ _ a [] hd hk trivial
  (fun ρ' a' k1 k2 _=>wpQuiet_nil (fun w' hw'=>Df (c.cx A0 h0) _ _ _ _ (Nat.le_refl _) (GS hok hw'.1 k1 hw'.2.1) w hf b a' w' hb hn k2 rfl hw'.2.2))
 rw[List.append_nil]at this
 exact this
end Go.Vm
