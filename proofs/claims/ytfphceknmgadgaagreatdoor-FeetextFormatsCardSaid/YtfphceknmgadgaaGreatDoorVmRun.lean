/-
The evaluator is sound, continued: lists of operations, code, and whole calls; the rules for loops and for regions that draw their order.
Conditions: none. Generic: it speaks of no program.
-/
import Derived.Test.YtfphceknmgadgaaGreatDoorVmSound
set_option linter.unusedSimpArgs false
set_option linter.unusedVariables false
namespace Go.Vm
section
variable {P:Program} {n:Nat} {all:List Oper} {w0:World} {Q:Exit→Act→World→Prop} {X:List PanicEntry→AX→Prop}
theorem cK{o:Oper}{ρ:Bc}{h:AX}{K:Bc→AX→Prop}(hp:Cw o.op=true)(hs:Bb P n o ρ h K X): ∃ρ',K ρ' h:=by
 obtain⟨dst,op,ty,pos,aft,gd⟩:=o
 have put: ∀{v:Value},BL n dst v ρ (fun ρ'=>K ρ' h)→ ∃ρ',K ρ' h:=by
  intro v hv
  cases dst with
  |none=>exact⟨ρ,hv⟩
  |some d=>exact⟨_,hv.2⟩
 have bin: ∀{op t x y},Cv P op t x y (fun v=>BL n dst v ρ fun ρ'=>K ρ' h)→ ∃ρ',K ρ' h:=by
  intro op t x y hb
  unfold Cv at hb
  split at hb
  ·split at hb<;>exact put hb.2
  ·split at hb<;>first|exact put hb.2|exact put hb|exact hb.elim
  ·split at hb
   ·obtain⟨b,_,h2⟩:=AB hb.2;exact put h2
   ·obtain⟨b,_,h2⟩:=AB hb.2;exact put h2
   ·exact hb.elim
 simp only at hp
 unfold Cw at hp
 unfold Bb Jq at hs
 split at hp
 ·obtain⟨v,_,h2⟩:=AB hs;exact put h2
 ·obtain⟨v,hv,h2⟩:=AB hs
  clear hv
  unfold Sx at h2
  split at h2
  ·rename_i b
   cases b with
   |true=>obtain⟨u,_,h3⟩:=AB (h2.1 rfl);exact put h3
   |false=>obtain⟨u,_,h3⟩:=AB (h2.2 rfl);exact put h3
  ·exact h2.elim
 ·obtain⟨v,_,h2⟩:=AB hs
  simp only at h2
  split at h2
  ·obtain⟨u,_,h3⟩:=AB h2;exact put h3
  ·exact h2.elim
 ·obtain⟨u,_,h2⟩:=AB hs
  obtain⟨v,_,h2⟩:=AB h2
  exact bin h2
 ·obtain⟨v,_,h2⟩:=AB hs
  obtain⟨u,_,h2⟩:=AB h2
  exact put h2
 ·obtain⟨vs,_,h2⟩:=AB hs
  simp only at h2
  split at h2<;>first|exact h2.elim|skip
  all_goals first|cases ‹Builtin.len=_› |skip
  unfold Hz at h2
  split at h2
  ·exact put h2.2
  ·obtain⟨_,_,h3⟩:=AB h2;exact put h3
  ·split at h2
   ·exact put h2
   ·exact h2.elim
  ·split at h2
   ·exact put h2
   ·exact h2.elim
  ·exact h2.elim
 ·cases hp
theorem kr: ∀(m:Nat) (cur:Option (Nat×Bool)) (l:List Oper) (ρ:Bc) (h:AX) (K:Bc→AX→Prop),(∀o∈l,Cw o.op=true)→CM P n all m cur l ρ h K X→ ∃ρ',K ρ' h:=by
 intro m
 induction m with
 |zero=>intro cur l ρ h K _ hd;cases hd
 | succ m ih=>
  intro cur l ρ h K hp hd
  cases l with
  |nil=>exact⟨ρ,hd⟩
  | cons o l=>
   unfold CM at hd
   split at hd
   ·obtain⟨ρ',h1⟩:=cK (hp o (List.mem_cons_self ..)) hd
    exact ih _ _ _ _ _ (fun x hx=>hp x (List.mem_cons_of_mem _ hx)) h1
   ·split at hd
    ·exact hd.elim
    ·rename_i j want hg
     obtain⟨s,hs,hd'⟩:=AB hd
     clear hd
     obtain⟨v,hv,hd⟩:=AB hd'
     clear hd'
     have hin: ∀x,x∈Bv cur (o::l)→Cw x.op=true:=fun x hx=>hp x (by rw[←G7 cur (o::l)];exact List.mem_append_left _ hx)
     have hout: ∀x,x∈Cb cur (o::l)→Cw x.op=true:=fun x hx=>hp x (by rw[←G7 cur (o::l)];exact List.mem_append_right _ hx)
     split at hd
     ·rename_i b
      obtain⟨_,hd⟩:=hd
      split at hd
      ·rename_i p after hpu haf
       split at hd
       ·obtain⟨ρ1,h1⟩:=ih _ _ _ _ _ hin hd
        obtain⟨c,_,h1⟩:=AB h1
        unfold Dg at h1
        split at h1
        ·have hp2: ∀x∈after,Cw x.op=true:=fun x hx=>hout x (by rw[haf];exact List.mem_cons_of_mem _ hx)
         cases hdst:p.dst with
         |none=>rw[hdst]at h1;exact ih _ _ _ _ _ hp2 h1
         |some d=>rw[hdst]at h1;exact ih _ _ _ _ _ hp2 h1.2
        ·exact h1.elim
       ·exact hd.elim
      ·by_cases hb:(b==want)=true
       ·obtain⟨ρ1,h1⟩:=ih _ _ _ _ _ hin (hd.1 hb)
        exact ih _ _ _ _ _ hout h1
       ·exact ih _ _ _ _ _ hout (hd.2 (by simpa using hb))
     ·exact hd.elim
theorem cU: ∀(l:List Oper),FF l=true→ ∀o∈l,Cw o.op=true:=by
 intro l
 induction l with
 |nil=>intro _ o ho;cases ho
 |cons x l ih=>
  intro h o ho
  simp only[FF,Bool.and_eq_true]at h
  rcases List.mem_cons.1 ho with rfl|ho
  ·exact h.1
  ·exact ih h.2 o ho
theorem HA{want:Bool}{s:Nat}{op:Op}{y:Operand}(h:DD want s op=some y):
  (want=false∧op=.pick (.tmp s) (.const (.bool true)) y)∨(want=true∧op=.pick (.tmp s) y (.const (.bool false))):=by
 unfold DD at h
 split at h
 ·split at h
  ·rename_i e;subst e;cases h;exact .inl ⟨rfl,rfl⟩
  ·cases h
 ·split at h
  ·rename_i e;subst e;cases h;exact .inr ⟨rfl,rfl⟩
  ·cases h
 ·cases h
set_option maxHeartbeats 1000000 in
theorem KR[dd:DefD](hX: ∀ch h a w,X ch h→Ch n [] a→w.heap=h→Ba w0 w→Q (.panic ch) a w): ∀(m:Nat) (cur:Option (Nat×Bool)) (rest:List Oper) (ρ:Bc) (K:Bc→AX→Prop) (a:Act) (w:World) (rest':List Oper),
  CM P n all m cur rest ρ w.heap K X→Ch n ρ a→Ba w0 w→G4 all ρ cur rest→
  (∀ρ' a' w',K ρ' w'.heap→Ch n ρ' a'→Ba w0 w'→cr rest ρ ρ'→wpList P all.toArray Q rest' a' w')→wpList P all.toArray Q (rest++rest') a w:=by
 intro m
 induction m with
 |zero=>intro cur rest ρ K a w rest' hd;cases hd
 | succ m ih=>
  intro cur rest ρ K a w rest' hd hk hr hc hn
  cases rest with
  |nil=>exact hn ρ a w hd hk hr (fun t _=>rfl)
  | cons o l=>
   unfold CM at hd
   split at hd
   ·rename_i hg
    have hw:=Fr hk hc hg
    show wpList P all.toArray Q (o::(l++rest')) a w
    unfold wpList
    rw[if_pos hw]
    refine .inl (Gg hX hd hk hr fun ρ' a' w' h1 h2 h3 h4=> ?_)
    refine ih cur l ρ' K a' w' rest' h1 h2 h3 ?_ fun ρ'' a'' w'' k1 k2 k3 k4=>hn ρ'' a'' w'' k1 k2 k3 fun t ht=> ?_
    ·cases cur with
     |none=>trivial
     |some c=>
      obtain⟨j,want⟩:=c
      obtain⟨s,e1,e2,e3⟩:=hc
      exact⟨s,e1,by rw[h4 s (e3 o (List.mem_cons_self ..)),e2],fun x hx=>e3 x (List.mem_cons_of_mem _ hx)⟩
    ·rw[k4 t (fun x hx=>ht x (List.mem_cons_of_mem _ hx)),h4 t (ht o (List.mem_cons_self ..))]
   ·rename_i hg
    split at hd
    ·exact hd.elim
    ·rename_i j want hgd
     obtain⟨s,hs,hd'⟩:=AB hd
     clear hd
     obtain⟨v,hv,hd⟩:=AB hd'
     clear hd'
     split at hd
     ·rename_i b
      obtain⟨hok,hd⟩:=hd
      have hsp:=G7 cur (o::l)
      generalize hgr:Bv cur (o::l)=g at*
      generalize haf:Cb cur (o::l)=after at*
      have hdst:=Ld _ _ hok
      have hgl: ∀x∈g,x∈o::l:=fun x hx=>by rw[←hsp];exact List.mem_append_left _ hx
      have hal: ∀x∈after,x∈o::l:=fun x hx=>by rw[←hsp];exact List.mem_append_right _ hx
      rw[←hsp,List.append_assoc]
      have hcurE: ∀{ρ1:Bc},cr g ρ ρ1→G4 all ρ1 cur after:=by
       intro ρ1 he
       cases cur with
       |none=>trivial
       |some c=>
        obtain⟨j',want'⟩:=c
        obtain⟨s',e1,e2,e3⟩:=hc
        exact⟨s',e1,by rw[he s' (fun x hx=>e3 x (hgl x hx)),e2],fun x hx=>e3 x (hal x hx)⟩
      have hskip: ∀{rest2:List Oper},b≠want→(∀a',Ch n (D5 g ρ) a'→a'.tmps[s]? =some (.bool b)→wpList P all.toArray Q rest2 a' w)→wpList P all.toArray Q (g++rest2) a w:=
       fun hb h2=>NK hs hb g [] ρ a hok hk (hk.2.2 s _ hv) (fun s' hs'=>by cases hs') h2
      split at hd
      ·rename_i p after' hpu
       split at hd
       ·rename_i y hy
        have hpin: ∀x,x∈(p::after')→x∈o::l:=fun x hx=>hal x hx
        -- what follows the closing operation
        have fin: ∀(a':Act) (w':World) (ρ1:Bc) (c:Bool),BL n p.dst (.bool c) (D5 g ρ) (fun ρ''=>CM P n all m cur after' ρ'' w'.heap K X)→Ch n (D5 g ρ) a'→Ba w0 w'→
          wpList P all.toArray Q (after'++rest') (a'.put p.dst (.bool c)) w':=by
         intro a' w' ρ1 c h1 h2 h3
         obtain⟨ρ',h4,h5,h6⟩:=E9 h2 h1
         have he: ∀t,(∀x∈o::l,x.dst≠some t)→get ρ' t=get ρ t:=fun t ht=>by
          rw[h6 t (ht p (hpin p (List.mem_cons_self ..))),Ff g ρ (fun x hx=>ht x (hgl x hx))]
         refine ih cur after' ρ' K _ w' rest' h4 h5 h3 ?_ fun ρ'' a'' w'' k1 k2 k3 k4=>hn ρ'' a'' w'' k1 k2 k3 fun t ht=> ?_
         ·cases cur with
          |none=>trivial
          |some c=>
           obtain⟨j',want'⟩:=c
           obtain⟨s',e1,e2,e3⟩:=hc
           exact⟨s',e1,by rw[he s' (fun x hx=>e3 x hx),e2],fun x hx=>e3 x (hpin x (List.mem_cons_of_mem _ hx))⟩
         ·rw[k4 t (fun x hx=>ht x (hpin x (List.mem_cons_of_mem _ hx))),he t ht]
        have hpw: ∀(ρ1:Bc) (a':Act),Ch n ρ1 a'→G4 all ρ1 cur (p::after')→Region.wanted p (yielded all.toArray a'.tmps)=true:=by
         intro ρ1 a' h1 h2
         refine Fr h1 h2 ?_
         have: ∀(l:List Oper),Cb cur l=p::after'→p.guard=cur:=by
          intro l
          induction l with
          |nil=>intro h;simp[Cb]at h
          |cons x l ihl=>
           intro h
           unfold Cb at h
           split at h
           ·rename_i hx;simp at h;rw[←h.1];exact hx
           ·exact ihl h
         exact this _ haf
        by_cases hb:b=want
        ·subst hb
         refine ih (some (j,b)) g ρ _ a w ((p::after')++rest') hd hk hr ⟨s,hs,hv,hdst⟩ fun ρ1 a' w' k1 k2 k3 k4=> ?_
         obtain⟨c,hc1,k1⟩:=AB k1
         unfold Dg at k1
         split at k1
         ·rename_i c'
          have hOk:Ch n (D5 g ρ) a':=⟨k2.1,k2.2.1,fun t u ht=>by
           obtain⟨h1,h2⟩:=XS _ _ ht
           exact k2.2.2 t u (by rw[k4 t h1];exact h2)⟩
          show wpList P all.toArray Q (p::(after'++rest')) a' w'
          unfold wpList
          rw[if_pos (hpw ρ1 a' k2 (hcurE k4))]
          refine .inl ?_
          have hcond:a'.eval (.tmp s)=.bool b:=Ad k2 (by simp only[BM];rw[k4 s hdst];exact hv)
          have hyv:a'.eval y=.bool c':=Ad k2 hc1
          have hrun:(execOp a'.eval p).run P w'=.ok (.value (.bool (EM b b c'))) w':=by
           rcases HA hy with⟨e,hop⟩|⟨e,hop⟩
           ·subst e;simp[execOp,hop,hcond,hyv,asBool,EM]
           ·subst e;simp[execOp,hop,hcond,hyv,asBool,EM]
          unfold Oper.wp
          rw[hrun]
          exact fin a' w' ρ1 _ k1 hOk k3
         ·exact k1.elim
        ·obtain⟨ρ1,h1⟩:=kr m _ g ρ w.heap _ (cU g hpu) hd
         obtain⟨c,hc1,h1⟩:=AB h1
         unfold Dg at h1
         split at h1
         ·rename_i c'
          refine hskip hb fun a' h2 h3=> ?_
          show wpList P all.toArray Q (p::(after'++rest')) a' w
          unfold wpList
          have hch:G4 all (D5 g ρ) cur (p::after'):=hcurE (fun t ht=>Ff g ρ ht)
          rw[if_pos (hpw _ a' h2 hch)]
          refine .inl ?_
          have hcond:a'.eval (.tmp s)=.bool b:=by
           simp only[Act.eval];rw[Array.getD_eq_getD_getElem?,h3];rfl
          have hrun:(execOp a'.eval p).run P w=.ok (.value (.bool (EM want b c'))) w:=by
           rcases HA hy with⟨e,hop⟩|⟨e,hop⟩
           ·subst e
            have:b=true:=by simpa using hb
            subst this
            simp[execOp,hop,hcond,asBool,EM,Act.eval]
            simp[Act.eval]at hcond
            simp[hcond]
           ·subst e
            have:b=false:=by simpa using hb
            subst this
            simp[execOp,hop,hcond,asBool,EM,Act.eval]
            simp[Act.eval]at hcond
            simp[hcond]
          unfold Oper.wp
          rw[hrun]
          exact fin a' w ρ1 _ h1 h2 hr
         ·exact h1.elim
       ·exact hd.elim
      ·rename_i after _ _ _
       by_cases hb:b=want
       ·subst hb
        refine ih (some (j,b)) g ((s,some (.bool b))::ρ) _ a w (after++rest') (hd.1 (by simp)) (hk.again hv) hr ⟨s,hs,(EF hv s).trans hv,hdst⟩ fun ρ1 a' w' k1 k2 k3 k4=> ?_
        replace k4:cr g ρ ρ1:=fun t ht=>(k4 t ht).trans (EF hv t)
        refine ih cur after ρ1 K a' w' rest' k1 k2 k3 (hcurE k4) fun ρ'' a'' w'' q1 q2 q3 q4=>hn ρ'' a'' w'' q1 q2 q3 fun t ht=> ?_
        rw[q4 t (fun x hx=>ht x (hal x hx)),k4 t (fun x hx=>ht x (hgl x hx))]
       ·have hbw:(!want)=b:=by cases b<;>cases want<;>simp at hb⊢
        have hd2:=hd.2 (by simpa using hb)
        rw[hbw]at hd2
        refine NK hs hb g [] ((s,some (.bool b))::ρ) a hok (hk.again hv) (hk.2.2 s _ hv) (fun s' hs'=>by cases hs') fun a' h2 h3=> ?_
        have he:cr g ρ (D5 g ((s,some (.bool b))::ρ)):=fun t ht=>(Ff g _ ht).trans (EF hv t)
        refine ih cur after (D5 g ((s,some (.bool b))::ρ)) K a' w rest' hd2 h2 hr (hcurE he) fun ρ'' a'' w'' q1 q2 q3 q4=>hn ρ'' a'' w'' q1 q2 q3 fun t ht=> ?_
        rw[q4 t (fun x hx=>ht x (hal x hx)),he t (fun x hx=>ht x (hgl x hx))]
     ·exact hd.elim
end
theorem cD{l:List Nat}{ρ:Bc}{t:Nat}{v:Value}(h:get (canon l ρ) t=some v):get ρ t=some v:=by
 induction l with
 |nil=>cases h
 | cons s l ih=>
  unfold canon TM at h
  split at h
  ·rename_i u hu
   simp only[get]at h
   split at h
   ·rename_i e;subst e;rw[hu];exact h
   ·exact ih h
  ·exact ih h
theorem Ch.canon[dd:DefD]{n:Nat}{ρ:Bc}{a:Act}(hk:Ch n ρ a)(l:List Nat):Ch n (canon l ρ) a:=⟨hk.1,hk.2.1,fun t v h=>hk.2.2 t v (cD h)⟩
section
variable {P:Program} {b:Frame} {k:List Item} {a:Act} {w:World} {R:Ending→World→Prop}
theorem D3.step_[dd:DefD]{k':List Item}{a':Act}{w':World}(h: ∀cs,step P (lone (b.at a k) cs w)=.next (lone (b.at a' k') cs w'))(hT:D3 P b k' a' w' R):D3 P b k a w R:=fun cs=>
 let ⟨e,w2,fr,hr,hc,hf,hl⟩:=hT cs
 ⟨e,w2,fr,hr,Comes.of_steps (.one (h cs)) hc,hf,hl⟩
theorem D3.of_wp[dd:DefD]{x:Code}{Q:Exit→Act→World→Prop}(h:x.wp P Q a w)(hf: ∃fn,P.funcs[b.fn]? =some fn)
  (hQ: ∀e a' w',Q e a' w'→match e with| .normal=>D3 P b k a' w' R| .panic ch=>a'.defers=DefD.ds∧R (.panicked ch) w'|_=>False):D3 P b (.code x::k) a w R:=by
 intro cs
 obtain⟨e,a',w',hq,harr⟩:=h b k cs
 have:=hQ e a' w' hq
 cases e with
 |normal=>
  obtain⟨e2,w2,fr,hr,hc,hfn,hl⟩:=this cs
  exact⟨e2,w2,fr,hr,Comes.of_steps harr hc,hfn,hl⟩
 |panic ch=>
  obtain⟨hd,hR⟩:=this
  obtain⟨todo,hs⟩:=harr
  obtain⟨fn,hfn⟩:=hf
  exact⟨.panicked ch,w',_,hR,hs,rfl,rfl,hd,fn,hfn⟩
 |exit _=>exact this.elim
 |goto _=>exact this.elim
 |ret=>exact this.elim
 |outgrown=>exact this.elim
theorem D3.done[dd:DefD]{fn:Func}{v:Value}{m:Frame}(hb:b.kind=DefD.kd)(hd:a.defers=DefD.ds)(hf:P.funcs[b.fn]? =some fn)(hr:(results fn a.tmps).run P w=.ok v w)(hR:R (.returned v) w)
  (hs: ∀cs,step P (lone (b.at a k) cs w)=.next (lone {b.at a k with mode:=.returning} cs w)):D3 P b k a w R:=fun cs=>
 ⟨.returned v,w,_,hR,.one (hs cs),rfl,rfl,hd,hb,fn,hf,hr⟩
theorem U9{c:Code}{cs:List Frame}:step P (lone (b.at a (.code (.scope c)::k)) cs w)=.next (lone (b.at a (.code c:: .inScope c::k)) cs w):=
 step_lone_go (by simp[stepG,stepG.exec,Frame.at])
theorem Pd{c:Code}{cs:List Frame}:step P (lone (b.at a (.inScope c::k)) cs w)=.next (lone (b.at a k) cs w):=
 step_lone_go (by simp[stepG,stepG.exec,Frame.at])
end
def l7(tmps:Array Value):ResultVar→Sem Value
 | .tmp t=>Pure.pure (tmps.getD t undef)
 | .cell s t=>do loadVar t (←asAddr (tmps.getD s undef))
theorem Ws(fn:Func)(tmps:Array Value):results fn tmps=(do
  let vs←fn.results.mapM (l7 tmps)
  Pure.pure (if h:vs.size=1 then vs[0]else .tuple vs)):=rfl
theorem W4[dd:DefD]{P:Program}{n:Nat}{ρ:Bc}{a:Act}{w:World}(hk:Ch n ρ a){r:ResultVar}{v:Value}(hr:Sj P ρ w.heap r=some v):(l7 a.tmps r).run P w=.ok v w:=by
 cases r with
 |tmp t=>
  have:a.tmps.getD t undef=v:=Ad hk (x:=.tmp t) hr
  simp only[l7,this,Sem.run_pure]
 | cell s ty=>
  simp only[Sj]at hr
  unfold oRd at hr
  split at hr
  ·rename_i ad had
   unfold Qw at had
   split at had
   ·rename_i p hp
    have hpp:a.tmps.getD s undef=p:=Ad hk (x:=.tmp s) hp
    have:=EA had
    subst this
    simp only[l7,hpp,asAddr,Sem.run_bind,Sem.run_pure,Result.andThen_ok,GN rfl hr]
   ·cases had
  ·cases hr
theorem OB[dd:DefD]{P:Program}{n:Nat}{ρ:Bc}{a:Act}{w:World}(hk:Ch n ρ a): ∀{rs:List ResultVar} {vs:List Value},LG P ρ w.heap rs=some vs→(rs.mapM (l7 a.tmps)).run P w=.ok vs w
 | [],vs,h=>by simp[LG]at h;subst h;simp
 | r::rs,vs,h=>by
  simp only[LG]at h
  cases hr:Sj P ρ w.heap r with
  |none=>simp[hr,Em]at h
  | some v=>cases hl:LG P ρ w.heap rs with
   |none=>simp[hr,hl,Em]at h
   |some us=>
    simp[hr,hl,Em]at h
    subst h
    simp only[List.mapM_cons,Sem.run_bind,W4 hk hr,Result.andThen_ok,OB hk hl,Sem.run_pure]
theorem Gk[dd:DefD]{P:Program}{fn:Func}{n:Nat}{ρ:Bc}{a:Act}{w:World}{vs:List Value}(hk:Ch n ρ a)(h:LG P ρ w.heap fn.results.toList=some vs):(results fn a.tmps).run P w=.ok (one vs) w:=by
 have:=OB hk h
 rw[Ws]
 simp only[Sem.run_bind]
 rw[Array.mapM_eq_mapM_toList]
 simp only[Sem.run_map,this,Result.andThen_ok,Sem.run_pure]
 congr 1
 rcases vs with _|⟨v,_|⟨u,vs⟩⟩<;>rfl
theorem Jv[dd:DefD]{c:Cx}{ρ:Bc}{b:Frame}{a:Act}{w w0:World}{k:List Item}(hf:c.P.funcs[c.f]? =some c.fn)(hb:b.fn=c.f)(hn:b.kind=DefD.kd)(hk:Ch c.n ρ a)(hr:Ba w0 w)(h:XP c ρ w.heap)
  (hs: ∀cs,step c.P (lone (b.at a k) cs w)=.next (lone {b.at a k with mode:=.returning} cs w)):D3 c.P b k a w fun e w'=>c.R e w'.heap∧Ba w0 w':=by
 obtain⟨vs,hv,hR⟩:=AB h
 exact D3.done (m:=b) hn hk.1 (by rw[hb];exact hf) (Gk hk hv) ⟨hR,hr⟩ hs
theorem Fa{id:Nat}: ∀{k k':List It},DG id k=some k'→exitTo id (k.map It.item)=some (k'.map It.item)
 | [],_,h=>by cases h
 | .blk i::k,k',h=>by
  unfold DG at h
  simp only[List.map_cons,It.item,exitTo]
  split at h
  ·rename_i e;subst e;cases h;simp
  ·rename_i e
   rw[if_neg (by simpa using e)]
   exact Fa h
 | .code x::k,k',h=>by simp only[List.map_cons,It.item,exitTo];exact Fa (by simpa[DG]using h)
 | .lp x::k,k',h=>by simp only[List.map_cons,It.item,exitTo];exact Fa (by simpa[DG]using h)
 | .sc x::k,k',h=>by simp only[List.map_cons,It.item,exitTo];exact Fa (by simpa[DG]using h)
theorem Hy.canon[dd:DefD]{c:Cx}{k:List It}{ρ:Bc}{h:AX}{l:List Nat}(hm: @Hy dd c k (canon l ρ) h ()): @Hy dd c k ρ h ():=fun hf b a w h1 h2 hk hw=>hm hf b a w h1 h2 (hk.canon l) hw
def iF[dd:DefD](c:Cx)(w0:World)(k:List It)(ρ:Bc)(h:AX):Prop:=
 c.P.funcs[c.f]? =some c.fn→ ∀(b:Frame) (a:Act) (w:World),b.fn=c.f→b.kind=DefD.kd→Ch c.n ρ a→w.heap=h→Ba w0 w→D3 c.P b (k.map It.item) a w fun e w'=>c.R e w'.heap∧Ba w0 w'
theorem Hy.rest[dd:DefD]{c:Cx}{k:List It}{ρ:Bc}{h:AX}(hm: @Hy dd c k ρ h ())(w0:World):iF c w0 k ρ h:=fun hf b a w h1 h2 hk hw hr=>fun cs=>
 let ⟨e,w',fr,hR,rest⟩:=hm hf b a w h1 h2 hk hw cs
 ⟨e,w',fr,⟨hR.1,hr.trans hR.2⟩,rest⟩
theorem Bx.run[dd:DefD]{c:Cx}{body:Code}{k:List It}{ρ:Bc}{h:AX}{l:List Nat}(hm: @Bx dd c body k (Vm.canon l ρ) h ())(w0:World)(hf:c.P.funcs[c.f]? =some c.fn)(b:Frame)(a:Act)(w:World)(h1:b.fn=c.f)(h2:b.kind=DefD.kd)(hk:Ch c.n ρ a)(hw:w.heap=h)(hr:Ba w0 w):
  D3 c.P b (.code body:: .inLoop body::k.map It.item) a w fun e w'=>c.R e w'.heap∧Ba w0 w':=fun cs=>
 let ⟨e,w',fr,hR,rest⟩:=hm hf b a w h1 h2 (hk.canon l) hw cs
 ⟨e,w',fr,⟨hR.1,hr.trans hR.2⟩,rest⟩
theorem ES[dd:DefD](c:Cx): ∀(N:Nat) (k:List It) (ρ:Bc) (h:AX),LZ k≤N→Dc c k ρ h→ ∀w0,iF c w0 k ρ h:=by
 intro N
 induction N with
 | zero=>
  intro k ρ h hN hd w0 hf b a w hb hn hk hw hr
  have:k=[]:=by
   cases k with
   |nil=>rfl
   |cons x k=>
    simp only[LZ]at hN
    have:0<O0 x:=by cases x<;>simp[O0];rename_i c;cases c<;>simp[J1]
    omega
  subst this hw
  rw[Dc]at hd
  exact Jv hf hb hn hk hr hd fun cs=>step_end
 | succ N ih=>
  intro k ρ h hN hd w0 hf b a w hb hn hk hw hr
  cases k with
  |nil=>
   subst hw
   rw[Dc]at hd
   exact Jv hf hb hn hk hr hd fun cs=>step_end
  | cons x k=>
   simp only[LZ]at hN
   cases x with
   |blk id=>
    rw[Dc]at hd
    exact .step_ (fun cs=>step_inBlock) (ih k ρ h (by simp only[O0]at hN;omega) hd w0 hf b a w hb hn hk hw hr)
   |sc y=>
    rw[Dc]at hd
    exact .step_ (fun cs=>Pd) (ih k ρ h (by simp only[O0]at hN;omega) hd w0 hf b a w hb hn hk hw hr)
   |lp y=>
    rw[Dc]at hd
    exact .step_ (k':=.code y:: .inLoop y::k.map It.item) (fun cs=>step_inLoop) (hd.run w0 hf b a w hb hn hk hw hr)
   | code y=>
    simp only[O0]at hN
    cases y with
    |skip=>
     rw[Dc]at hd
     exact .step_ (fun cs=>step_skip) (ih k ρ h (by simp only[J1]at hN;omega) hd w0 hf b a w hb hn hk hw hr)
    |label l=>
     rw[Dc]at hd
     exact .step_ (fun cs=>step_label) (ih k ρ h (by simp only[J1]at hN;omega) hd w0 hf b a w hb hn hk hw hr)
    |ret=>
     subst hw
     rw[Dc]at hd
     exact Jv hf hb hn hk hr hd fun cs=>step_ret
    |seq x y=>
     rw[Dc]at hd
     exact .step_ (fun cs=>step_seq) (ih (.code x:: .code y::k) ρ h (by simp only[J1,LZ,O0]at hN ⊢;omega) hd w0 hf b a w hb hn hk hw hr)
    |block id x=>
     rw[Dc]at hd
     exact .step_ (fun cs=>step_block) (ih (.code x:: .blk id::k) ρ h (by simp only[J1,LZ,O0]at hN ⊢;omega) hd w0 hf b a w hb hn hk hw hr)
    |scope x=>
     rw[Dc]at hd
     exact .step_ (fun cs=>U9) (ih (.code x:: .sc x::k) ρ h (by simp only[J1,LZ,O0]at hN ⊢;omega) hd w0 hf b a w hb hn hk hw hr)
    |loop x=>
     rw[Dc]at hd
     exact .step_ (k':=.code x:: .inLoop x::k.map It.item) (fun cs=>step_loop) (hd.run w0 hf b a w hb hn hk hw hr)
    | exit id=>
     rw[Dc]at hd
     split at hd
     ·rename_i k' hk'
      exact .step_ (fun cs=>step_exit (Fa hk')) (ih k' ρ h (by have:=FW _ _ _ hk';simp only[J1]at hN;omega) hd w0 hf b a w hb hn hk hw hr)
     ·exact hd.elim
    | cond x t e=>
     rw[Dc]at hd
     obtain⟨v,hv,hd⟩:=AB hd
     unfold Sx at hd
     split at hd
     ·rename_i q
      have hev:=Ad hk hv
      refine .step_ (fun cs=>step_cond hev) ?_
      cases q with
      |true=>exact ih (.code t::k) ρ h (by simp only[J1,LZ,O0]at hN ⊢;omega) (hd.1 rfl) w0 hf b a w hb hn hk hw hr
      |false=>exact ih (.code e::k) ρ h (by simp only[J1,LZ,O0]at hN ⊢;omega) (hd.2 rfl) w0 hf b a w hb hn hk hw hr
     ·exact hd.elim
    | region id ops draw=>
     cases draw with
     |true=>
      rw[Dc]at hd
      exact hd.canon.rest w0 hf b a w hb hn hk hw hr
     | false=>
      subst hw
      rw[Dc]at hd
      refine .of_wp (Q:=fun e a' w'=>match e with| .normal=>D3 c.P b (k.map It.item) a' w' (fun e w'=>c.R e w'.heap∧Ba w0 w')| .panic ch=>a'.defers=DefD.ds∧(c.R (.panicked ch) w'.heap∧Ba w0 w')|_=>False) ?_ ⟨c.fn,by rw[hb];exact hf⟩ (fun e a' w' hq=>hq)
      have hop:=KR (all:=ops.toList) (w0:=w0) (Q:=fun e a' w'=>match e with| .normal=>D3 c.P b (k.map It.item) a' w' (fun e w'=>c.R e w'.heap∧Ba w0 w')| .panic ch=>a'.defers=DefD.ds∧(c.R (.panicked ch) w'.heap∧Ba w0 w')|_=>False)
       (fun ch h a w h1 h2 h3 h4=>⟨h2.1,by rw[h3];exact h1,h4⟩) _ none ops.toList _ _ a w [] hd (hk.canon _) hr trivial
       (fun ρ' a' w' k1 k2 k3 _=>wpList_nil (ih k ρ' w'.heap (by simp only[J1]at hN;omega) k1 w0 hf b a' w' hb hn k2 rfl k3))
      rw[List.append_nil]at hop
      have:=wp_region_lit (id:=id) (l:=ops.toList) hop
      simpa using this
    |rangeFunc _ _ _ _=>unfold Dc at hd;exact hd.elim
    |goto _=>unfold Dc at hd;exact hd.elim
    |refuse _=>unfold Dc at hd;exact hd.elim
def Li:Nat→List Value→Bc
 |_,[]=>[]
 |i,v::l=>(i,some v)::Li (i+1) l
theorem Ni: ∀(l:List Value) (i t:Nat) (v:Value),get (Li i l) t=some v→ ∃j,t=i+j∧l[j]? =some v
 | [],_,_,_,h=>by cases h
 | u::l,i,t,v,h=>by
  simp only[Li,get]at h
  split at h
  ·rename_i e;exact⟨0,e.symm,by simpa using h⟩
  ·obtain⟨j,h1,h2⟩:=Ni l (i+1) t v h
   exact⟨j+1,by omega,by simpa using h2⟩
@[reducible] def dd0:DefD:=⟨[],.normal⟩
theorem BU(c:Cx){code:Code}{args:List Value}{h:AX}(hf:c.P.funcs[c.f]? =some c.fn)(hb:c.fn.body=some code)(hn:c.fn.ntmps=c.n)(ha:args.length≤c.n)
  (hd: @Dc dd0 c [.code code] (Li 0 args) h):CallsH c.P c.f args.toArray h c.R:=by
 intro w hw cs
 let b:Frame:={(default:Frame)with fn:=c.f,kind:=.normal}
 let a:Act:={tmps:=args.toArray++Array.replicate (c.fn.ntmps - args.toArray.size) undef,defers:=[]}
 have henter:Frame.enter c.P c.f args.toArray .normal=b.at a [.code code]:=by
  simp[Frame.enter,Frame.at,hf,hb,b,a]
 have hk: @Ch dd0 c.n (Li 0 args) a:=by
  refine⟨rfl,by simp[a,hn];omega,fun t v ht=> ?_⟩
  obtain⟨j,h1,h2⟩:=Ni args 0 t v ht
  have hj:j<args.length:=by
   rcases Nat.lt_or_ge j args.length with h|h
   ·exact h
   ·rw[List.getElem?_eq_none h]at h2;cases h2
  have:t=j:=by omega
  subst this
  simp only[a,Array.getElem?_append]
  rw[if_pos (by simpa using hj)]
  simpa using h2
 have:= @ES dd0 c _ _ _ _ (Nat.le_refl _) hd w hf b a w rfl rfl hk hw (Ba.refl w) cs
 obtain⟨e,w',fr,hR,hc,hfn,hl⟩:=this
 refine⟨e,w',fr,hR, ?_,hfn,hl⟩
 rw[henter]
 exact hc
theorem Bx.intro[dd:DefD]{c:Cx}{body:Code}{k:List It}{ρ:Bc}{h:AX}(hd:Dc c (.code body:: .lp body::k) ρ h): @Bx dd c body k ρ h ():=fun hf b a w h1 h2 hk hw=>
 ES c _ _ _ _ (Nat.le_refl _) hd w hf b a w h1 h2 hk hw (Ba.refl w)
theorem CallsH.calls{P:Program}{f:FuncId}{args:Array Value}{w:World}{R:Ending→AX→Prop}(hc:CallsH P f args w.heap R):Calls P f args w fun e w'=>R e w'.heap∧Ba w w':=hc w rfl
theorem UP(i:Nat):Li i []=[]:=rfl
theorem Rp(i:Nat)(v:Value)(l:List Value):Li i (v::l)=(i,some v)::Li (i+1) l:=rfl
end Go.Vm
