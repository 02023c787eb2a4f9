/-
Regions that draw their order and change nothing that is known: one evaluation in the order of the text serves every order.
Conditions: none. Generic: it speaks of no program.
-/
import Derived.Test.YtfphceknmgadgaaGreatDoorVmAT
set_option linter.unusedSimpArgs false
set_option linter.unusedVariables false
namespace Go.Vm
def Mb(A:AH)(C:World→Prop):Prop:= ∀w,C w→DO A w.heap∧ ∀w',Grew w.heap w'.heap→BV w w'→C w'
section
variable {P:Program} {n:Nat} {all:List Oper} {A:AH} {w0:World} {C:World→Prop}
theorem EH[dd:DefD]{o:Oper}{ρ:Ba}{K0:Ba→Prop}(hs:B4 P n o ρ A K0): ∃v,(∀K,B4 P n o ρ A K↔BJ n o.dst v ρ K)∧ ∀(C:World→Prop) (a:Act),CV n ρ a→Mb A C→ ∀w,C w→o.quietAt P a C w v:=by
 obtain⟨dst,op,ty,pos,aft,gd⟩:=o
 have hs0:=hs
 unfold B4 at hs
 split at hs
 ·rename_i f args ts hop
  simp only at hop
  subst hop
  obtain⟨fv,hf,hs⟩:=AB hs
  obtain⟨vs,hv,hs⟩:=AB hs
  cases fv with
  | func fn fs cs=>
   cases fn with
   | func g=>
    obtain⟨hc,hs⟩:=hs
    obtain⟨v,hval,hput⟩:=AB hs
    refine⟨v,fun K=>(Ad hf _).trans ((Ad hv _).trans ((DH hc).trans (Ad hval _))),fun C a hk hC w hw=> ?_⟩
    have hrun:(execOp a.eval ⟨dst,.call ⟨.value f,args,ts⟩,ty,pos,aft,gd⟩).run P w=.ok (.enter g (fs++vs.toArray++cs)) w:=by
     simp only[execOp,resolve,Ac hk hf,Deferred.ofValue,Sem.run_bind,Sem.run_pure,Result.andThen_ok,invoke,DY hk hv]
     exact DJ hc
    unfold Oper.quietAt
    rw[hrun]
    have hp:=(Ld hval).2 w.heap (hC w hw).1
    unfold E4 at hp
    rw[if_pos hc]at hp
    exact⟨rfl,(hp w rfl).mono fun e w' ⟨⟨h1,h2⟩,h3⟩=>⟨h1,(hC w hw).2 w' h2 h3⟩⟩
   |_=>exact hs.elim
  |_=>exact hs.elim
 ·rename_i t x hop
  simp only at hop
  subst hop
  obtain⟨p,hp,hs⟩:=AB hs
  obtain⟨ad,ha,hs⟩:=AB hs
  obtain⟨v,hv,hput⟩:=AB hs
  refine⟨v,fun K=>(Ad hp _).trans ((Ad ha _).trans (Ad hv _)),fun C a hk hC w hw=> ?_⟩
  have:=DT ha
  subst this
  unfold Oper.quietAt
  simp[execOp,Instr.loadAt,Instr.sureAddr,Ac hk hp,FK rfl (J4 (hC w hw).1 hv),Oper.quietUpon]
 ·rename_i s d x hop
  simp only at hop
  subst hop
  obtain⟨u,hu,hs⟩:=AB hs
  have e1: ∀K,B4 P n ⟨dst,.convert s d x,ty,pos,aft,gd⟩ ρ A K↔JD P s d (P.underlying s) (P.underlying d) u A fun u=>BJ n dst u ρ K:=fun K=>Ad hu _
  by_cases hud: ∃ds k',P.underlying s=some ds∧P.underlying d=some (.int k')
  ·obtain⟨ds,k',h1,h2⟩:=hud
   rw[h1,h2]at hs
   cases u with
   |int k m=>exact⟨.int k' (k'.wrap m),fun K=>(e1 K).trans (by rw[h1,h2];cases ds<;>exact Iff.rfl),fun C a hk hC w hw=>by unfold Oper.quietAt;simp[execOp,Ac hk hu,convert,underlying,h1,h2,Conv.intToInt,Oper.quietUpon]⟩
   |_=>cases ds<;>exact hs.elim
  ·have e2: ∀K:Value→Prop,JD P s d (P.underlying s) (P.underlying d) u A K↔Ay (F8 P (convert s d u) A) K:=by
    intro K
    generalize P.underlying s=us at*
    generalize P.underlying d=ud at*
    unfold JD
    split
    ·exact(hud ⟨_,_,rfl,rfl⟩).elim
    ·exact Iff.rfl
   obtain⟨v,hv,hput⟩:=AB ((e2 _).1 hs)
   refine⟨v,fun K=>(e1 K).trans ((e2 _).trans (Ad hv _)),fun C a hk hC w hw=> ?_⟩
   unfold Oper.quietAt
   simp[execOp,Ac hk hu,Jz hv w (hC w hw).1,Oper.quietUpon]
 ·rename_i t x i ok hop
  simp only at hop
  subst hop
  obtain⟨u,hu,hs⟩:=AB hs
  obtain⟨u2,hu2,hs⟩:=AB hs
  obtain⟨v,hv,hput⟩:=AB hs
  refine⟨v,fun K=>(Ad hu _).trans ((Ad hu2 _).trans (Ad hv _)),fun C a hk hC w hw=> ?_⟩
  unfold Oper.quietAt
  simp[execOp,Ac hk hu,Ac hk hu2,Jz hv w (hC w hw).1,Oper.quietUpon]
 ·rename_i b args ts hop
  simp only at hop
  subst hop
  obtain⟨vs,hv,hs⟩:=AB hs
  have key: ∀(x:Value) (t:TypeId),b=.len→vs=[x]→ts.toList=[t]→(∃K1,G0 P t x A K1)→ ∃v,(∀K,B4 P n ⟨dst,.call ⟨.builtin b,args,ts⟩,ty,pos,aft,gd⟩ ρ A K↔BJ n dst v ρ K)∧ ∀(C:World→Prop) (a:Act),CV n ρ a→Mb A C→ ∀w,C w→(⟨dst,.call ⟨.builtin b,args,ts⟩,ty,pos,aft,gd⟩:Oper).quietAt P a C w v:=by
   rintro x t rfl rfl hts ⟨K1,hs⟩
   obtain⟨v,h1,h2⟩:=S8 hs
   have hts':ts= #[t]:=by apply Array.ext';simpa using hts
   subst hts'
   refine⟨v,fun K=>(Ad hv _).trans (h1 _),fun C a hk hC w hw=> ?_⟩
   have hlen:GM P t x w.heap fun u=>u=v:=(h2 w.heap _ (hC w hw).1).2 rfl
   obtain⟨u,hu,rfl⟩:=HT (P:=P) (ty:=ty) hlen
   unfold Oper.quietAt
   simp[execOp,resolve,invoke,builtin,DY hk hv,hu w rfl,Oper.quietUpon]
  split at hs
  ·rename_i x t hts _
   exact key x t rfl rfl hts ⟨_,hs⟩
  ·exact hs.elim
 ·rename_i n1 n2 n3 n4 n5
  simp only at n1 n2 n3 n4 n5
  obtain⟨hfr,hs⟩:=hs
  obtain⟨v,hv⟩:=l7 hfr n3 hs
  have e: ∀K,B4 P n ⟨dst,op,ty,pos,aft,gd⟩ ρ A K=Bf (J8 P op=true) (HL P op ty ρ #[] fun v _=>BJ n dst v ρ K):=by
   intro K
   unfold B4
   split
   all_goals first|rfl|(rename_i hop;simp only at hop;subst hop;first|(cases hfr;done)|exact(n3 _ _ _ rfl).elim)
  refine⟨v,fun K=>by rw[e];exact(DH hfr).trans (hv _ _),fun C a hk hC w hw=> ?_⟩
  have hq:Hx P op=true:=by
   unfold J8 at hfr
   split at hfr
   ·cases hfr
   ·cases hfr
   ·exact hfr
  obtain⟨u,hu,he⟩:=Jt (n:=n) (dst:=dst) (pos:=pos) (aft:=aft) (gd:=gd) hq ((hv w.heap fun u _=>u=v).2 rfl)
  subst he
  unfold Oper.quietAt
  rw[hu a w hk rfl]
  exact⟨rfl,rfl⟩
theorem LN[dd:DefD]{o:Oper}{ρ:Ba}{K:Ba→Prop}(hs:B4 P n o ρ A K): ∃v,BJ n o.dst v ρ K∧ ∀(a:Act),CV n ρ a→Mb A C→ ∀w,C w→o.quietAt P a C w v:=by
 obtain⟨v,h1,h2⟩:=EH hs
 exact⟨v,(h1 K).1 hs,h2 C⟩
theorem P1[dd:DefD](hC:Mb A C){o:Oper}{ρ:Ba}{K:Ba→Prop}{a:Act}{next:Act→Prop}(hs:B4 P n o ρ A K)(hk:CV n ρ a)
  (hn: ∀ρ' a',K ρ'→CV n ρ' a'→(∀t,o.dst≠some t→get ρ' t=get ρ t)→next a'):o.quiet P a C next:=by
 obtain⟨v,hput,hv⟩:=LN (C:=C) hs
 obtain⟨ρ',hK,hk',he⟩:=D5 hk hput
 exact⟨v,fun w hw=>hv a hk hC w hw,hn ρ' _ hK hk' he⟩
theorem KC[dd:DefD]{s j:Nat}{want b:Bool}{C:World→Prop}{Q:Act→Prop}(hj:Cj all j=some s)(hb:b≠want){rest':List Oper}: ∀(l:List Oper) (sk:List Nat) (ρ:Ba) (a:Act),Cn all s j want sk l=true→CV n ρ a→
  a.tmps[s]? =some (.bool b)→(∀s'∈sk,a.tmps[s']? =some undef∨a.tmps[s']? =none)→(∀a',CV n (DR l ρ) a'→a'.tmps[s]? =some (.bool b)→wpQuiet P all.toArray C Q rest' a')→wpQuiet P all.toArray C Q (l++rest') a:=by
 intro l
 induction l with
 |nil=>intro sk ρ a _ hk hs _ hn;exact hn a hk hs
 | cons x l ih=>
  intro sk ρ a h hk hs hsk hn
  unfold Cn at h
  split at h
  ·rename_i d j' w' hd hg
   split at h
   ·cases h
   ·rename_i hds
    have hput:CV n ((d,none)::ρ) (a.put x.dst undef):=by rw[hd];exact hk.hide d undef
    have hs':(a.put x.dst undef).tmps[s]? =some (.bool b):=by
     rw[hd];simp only[Act.put,Array.getElem?_setIfInBounds];rw[if_neg hds];exact hs
    have hsk': ∀s'∈d::sk,(a.put x.dst undef).tmps[s']? =some undef∨(a.put x.dst undef).tmps[s']? =none:=by
     intro s' hm
     rw[hd];simp only[Act.put,Array.getElem?_setIfInBounds]
     rcases List.mem_cons.1 hm with rfl|hm
     ·simp only[if_true];split<;>simp
     ·split
      ·split<;>simp
      ·exact hsk s' hm
    have hhid:DR (x::l) ρ=DR l ((d,none)::ρ):=by simp[DR,hd]
    rw[hhid]at hn
    have go:Region.wanted x (yielded all.toArray a.tmps)=false→Cn all s j want (d::sk) l=true→wpQuiet P all.toArray C Q (x::l++rest') a:=by
     intro hw hok
     show wpQuiet P all.toArray C Q (x::(l++rest')) a
     unfold wpQuiet
     rw[if_neg (by simp[hw])]
     exact ih (d::sk) _ _ hok hput hs' hsk' hn
    split at h
    ·rename_i hjw
     obtain⟨rfl,rfl⟩:=hjw
     refine go ?_ h
     unfold Region.wanted
     simp only[hg,C1 hj,hs]
     simpa using hb
    ·split at h
     ·rename_i s' hs2
      split at h
      ·rename_i hm
       refine go ?_ h
       unfold Region.wanted
       rcases hsk s' hm with e|e
       ·simp only[hg,C1 hs2,e,undef];rfl
       ·simp only[hg,C1 hs2,e];rfl
      ·cases h
     ·cases h
  ·cases h
theorem Tq[dd:DefD]{sp:Bool}: ∀(m:Nat) (cur:Option (Nat×Bool)) (l:List Oper) (ρ:Ba) (K:Ba→Prop),B6 P n sp all A m cur l ρ K→ ∃ρ',K ρ':=by
 intro m
 induction m with
 |zero=>intro cur l ρ K hd;cases hd
 | succ m ih=>
  intro cur l ρ K hd
  have put: ∀{dst:Option Nat} {v:Value} {ρ:Ba} {K:Ba→Prop},BJ n dst v ρ K→ ∃ρ',K ρ':=by
   intro dst v ρ K hv
   cases dst with
   |none=>exact⟨ρ,hv⟩
   |some d=>exact⟨_,hv.2⟩
  cases l with
  |nil=>exact⟨ρ,hd⟩
  | cons o l=>
   unfold B6 at hd
   split at hd
   ·obtain⟨v,h1,_⟩:=LN (C:=fun _=>False) hd
    obtain⟨ρ',h1⟩:=put h1
    exact ih _ _ _ _ h1
   ·split at hd
    ·exact hd.elim
    ·rename_i j want hg
     obtain⟨s,hs,hd'⟩:=AB hd
     clear hd
     obtain⟨v,hv,hd⟩:=AB hd'
     clear hd'
     split at hd
     ·rename_i b
      obtain⟨_,hd⟩:=hd
      split at hd
      ·split at hd
       ·obtain⟨ρ1,h1⟩:=ih _ _ _ _ hd
        obtain⟨c,_,h1⟩:=AB h1
        unfold C9 at h1
        split at h1
        ·obtain⟨ρ',h1⟩:=put h1
         exact ih _ _ _ _ h1
        ·exact h1.elim
       ·exact hd.elim
      ·by_cases hb:(b==want)=true
       ·obtain⟨ρ1,h1⟩:=ih _ _ _ _ (hd.1 hb)
        exact ih _ _ _ _ h1
       ·exact ih _ _ _ _ (hd.2 (by simpa using hb))
     ·exact hd.elim
set_option maxHeartbeats 1000000 in
theorem KS[dd:DefD]{sp:Bool}{Q:Act→Prop}(hC:Mb A C): ∀(m:Nat) (cur:Option (Nat×Bool)) (rest:List Oper) (ρ:Ba) (K:Ba→Prop) (a:Act) (rest':List Oper),
  B6 P n sp all A m cur rest ρ K→CV n ρ a→FZ all ρ cur rest→
  (∀ρ' a',K ρ'→CV n ρ' a'→YD rest ρ ρ'→wpQuiet P all.toArray C Q rest' a')→wpQuiet P all.toArray C Q (rest++rest') a:=by
 intro m
 induction m with
 |zero=>intro cur rest ρ K a rest' hd;cases hd
 | succ m ih=>
  intro cur rest ρ K a rest' hd hk hc hn
  cases rest with
  |nil=>exact hn ρ a hd hk (fun t _=>rfl)
  | cons o l=>
   unfold B6 at hd
   split at hd
   ·rename_i hg
    have hw:=Ej hk hc hg
    show wpQuiet P all.toArray C Q (o::(l++rest')) a
    unfold wpQuiet
    rw[if_pos hw]
    refine P1 hC hd hk fun ρ' a' h1 h2 h4=> ?_
    refine ih cur l ρ' K a' rest' h1 h2 ?_ fun ρ'' a'' k1 k2 k4=>hn ρ'' a'' k1 k2 fun t ht=> ?_
    ·cases cur with
     |none=>trivial
     |some c=>
      obtain⟨j,want⟩:=c
      obtain⟨s,e1,e2,e3⟩:=hc
      exact⟨s,e1,by rw[h4 s (e3 o (List.mem_cons_self ..)),e2],fun x hx=>e3 x (List.mem_cons_of_mem _ hx)⟩
    ·rw[k4 t (fun x hx=>ht x (List.mem_cons_of_mem _ hx)),h4 t (ht o (List.mem_cons_self ..))]
   ·rename_i hg
    split at hd
    ·exact hd.elim
    ·rename_i j want hgd
     obtain⟨s,hs,hd'⟩:=AB hd
     clear hd
     obtain⟨v,hv,hd⟩:=AB hd'
     clear hd'
     split at hd
     ·rename_i b
      obtain⟨hok,hd⟩:=hd
      have hsp:=Fe cur (o::l)
      generalize hgr:Bl cur (o::l)=g at*
      generalize haf:CJ cur (o::l)=after at*
      have hdst:=J9 _ _ hok
      have hgl: ∀x∈g,x∈o::l:=fun x hx=>by rw[←hsp];exact List.mem_append_left _ hx
      have hal: ∀x∈after,x∈o::l:=fun x hx=>by rw[←hsp];exact List.mem_append_right _ hx
      rw[←hsp,List.append_assoc]
      have hcurE: ∀{ρ1:Ba},YD g ρ ρ1→FZ all ρ1 cur after:=by
       intro ρ1 he
       cases cur with
       |none=>trivial
       |some c=>
        obtain⟨j',want'⟩:=c
        obtain⟨s',e1,e2,e3⟩:=hc
        exact⟨s',e1,by rw[he s' (fun x hx=>e3 x (hgl x hx)),e2],fun x hx=>e3 x (hal x hx)⟩
      have hskip: ∀{rest2:List Oper},b≠want→(∀a',CV n (DR g ρ) a'→a'.tmps[s]? =some (.bool b)→wpQuiet P all.toArray C Q rest2 a')→wpQuiet P all.toArray C Q (g++rest2) a:=
       fun hb h2=>KC hs hb g [] ρ a hok hk (hk.2.2 s _ hv) (fun s' hs'=>by cases hs') h2
      split at hd
      ·rename_i p after' hpu
       split at hd
       ·rename_i y hy
        have hpin: ∀x,x∈(p::after')→x∈o::l:=fun x hx=>hal x hx
        have fin: ∀(a':Act) (c:Bool),BJ n p.dst (.bool c) (DR g ρ) (fun ρ''=>B6 P n sp all A m cur after' ρ'' K)→CV n (DR g ρ) a'→
          wpQuiet P all.toArray C Q (after'++rest') (a'.put p.dst (.bool c)):=by
         intro a' c h1 h2
         obtain⟨ρ',h4,h5,h6⟩:=D5 h2 h1
         have he: ∀t,(∀x∈o::l,x.dst≠some t)→get ρ' t=get ρ t:=fun t ht=>by
          rw[h6 t (ht p (hpin p (List.mem_cons_self ..))),EX g ρ (fun x hx=>ht x (hgl x hx))]
         refine ih cur after' ρ' K _ rest' h4 h5 ?_ fun ρ'' a'' k1 k2 k4=>hn ρ'' a'' k1 k2 fun t ht=> ?_
         ·cases cur with
          |none=>trivial
          |some c=>
           obtain⟨j',want'⟩:=c
           obtain⟨s',e1,e2,e3⟩:=hc
           exact⟨s',e1,by rw[he s' (fun x hx=>e3 x hx),e2],fun x hx=>e3 x (hpin x (List.mem_cons_of_mem _ hx))⟩
         ·rw[k4 t (fun x hx=>ht x (hpin x (List.mem_cons_of_mem _ hx))),he t ht]
        have hpw: ∀(ρ1:Ba) (a':Act),CV n ρ1 a'→FZ all ρ1 cur (p::after')→Region.wanted p (yielded all.toArray a'.tmps)=true:=by
         intro ρ1 a' h1 h2
         refine Ej h1 h2 ?_
         have: ∀(l:List Oper),CJ cur l=p::after'→p.guard=cur:=by
          intro l
          induction l with
          |nil=>intro h;simp[CJ]at h
          |cons x l ihl=>
           intro h
           unfold CJ at h
           split at h
           ·rename_i hx;simp at h;rw[←h.1];exact hx
           ·exact ihl h
         exact this _ haf
        have pickQ: ∀(a':Act) (c':Bool),a'.eval (.tmp s)=.bool b→(b=want→a'.eval y=.bool c')→wpQuiet P all.toArray C Q (after'++rest') (a'.put p.dst (.bool (De want b c')))→p.quiet P a' C (wpQuiet P all.toArray C Q (after'++rest')):=by
         intro a' c' hcond hyv hnext
         refine⟨.bool (De want b c'),fun w _=> ?_,hnext⟩
         have hrun:(execOp a'.eval p).run P w=.ok (.value (.bool (De want b c'))) w:=by
          rcases Fs hy with⟨e,hop⟩|⟨e,hop⟩
          ·subst e
           cases b with
           |false=>simp[execOp,hop,hcond,hyv rfl,asBool,De]
           |true=>simp[execOp,hop,hcond,asBool,De,Act.eval];simp[Act.eval]at hcond;simp[hcond]
          ·subst e
           cases b with
           |true=>simp[execOp,hop,hcond,hyv rfl,asBool,De]
           |false=>simp[execOp,hop,hcond,asBool,De,Act.eval];simp[Act.eval]at hcond;simp[hcond]
         unfold Oper.quietAt
         rw[hrun]
         exact⟨rfl,rfl⟩
        by_cases hb:b=want
        ·refine ih (some (j,want)) g ρ _ a ((p::after')++rest') hd hk ⟨s,hs,by rw[hv,hb],hdst⟩ fun ρ1 a' k1 k2 k4=> ?_
         obtain⟨c,hc1,k1⟩:=AB k1
         unfold C9 at k1
         split at k1
         ·rename_i c'
          have hOk:CV n (DR g ρ) a':=⟨k2.1,k2.2.1,fun t u ht=>by
           obtain⟨h1,h2⟩:=Tt _ _ ht
           exact k2.2.2 t u (by rw[k4 t h1];exact h2)⟩
          show wpQuiet P all.toArray C Q (p::(after'++rest')) a'
          unfold wpQuiet
          rw[if_pos (hpw ρ1 a' k2 (hcurE k4))]
          exact pickQ a' c' (Ac k2 (by simp only[BE];rw[k4 s hdst];exact hv)) (fun _=>Ac k2 hc1) (fin a' _ k1 hOk)
         ·exact k1.elim
        ·obtain⟨ρ1,h1⟩:=Tq m _ g ρ _ hd
         obtain⟨c,hc1,h1⟩:=AB h1
         unfold C9 at h1
         split at h1
         ·rename_i c'
          refine hskip hb fun a' h2 h3=> ?_
          show wpQuiet P all.toArray C Q (p::(after'++rest')) a'
          unfold wpQuiet
          have hch:FZ all (DR g ρ) cur (p::after'):=hcurE (fun t ht=>EX g ρ ht)
          rw[if_pos (hpw _ a' h2 hch)]
          have hcond:a'.eval (.tmp s)=.bool b:=by
           simp only[Act.eval];rw[Array.getD_eq_getD_getElem?,h3];rfl
          exact pickQ a' c' hcond (fun e=>absurd e hb) (fin a' _ h1 h2)
         ·exact h1.elim
       ·exact hd.elim
      ·rename_i after _ _ _
       by_cases hb:b=want
       ·subst hb
        refine ih (some (j,b)) g ((s,some (.bool b))::ρ) _ a (after++rest') (hd.1 (by simp)) (hk.again hv) ⟨s,hs,(Dc hv s).trans hv,hdst⟩ fun ρ1 a' k1 k2 k4=> ?_
        replace k4:YD g ρ ρ1:=fun t ht=>(k4 t ht).trans (Dc hv t)
        refine ih cur after ρ1 K a' rest' k1 k2 (hcurE k4) fun ρ'' a'' q1 q2 q4=>hn ρ'' a'' q1 q2 fun t ht=> ?_
        rw[q4 t (fun x hx=>ht x (hal x hx)),k4 t (fun x hx=>ht x (hgl x hx))]
       ·have hbw:(!want)=b:=by cases b<;>cases want<;>simp at hb⊢
        have hd2:=hd.2 (by simpa using hb)
        rw[hbw]at hd2
        refine KC hs hb g [] ((s,some (.bool b))::ρ) a hok (hk.again hv) (hk.2.2 s _ hv) (fun s' hs'=>by cases hs') fun a' h2 h3=> ?_
        have he:YD g ρ (DR g ((s,some (.bool b))::ρ)):=fun t ht=>(EX g _ ht).trans (Dc hv t)
        refine ih cur after (DR g ((s,some (.bool b))::ρ)) K a' rest' hd2 h2 (hcurE he) fun ρ'' a'' q1 q2 q4=>hn ρ'' a'' q1 q2 fun t ht=> ?_
        rw[q4 t (fun x hx=>ht x (hal x hx)),he t (fun x hx=>ht x (hgl x hx))]
     ·exact hd.elim
end
end Go.Vm
