/-
The evaluator is sound, continued: lists of operations, code, and whole calls; the rules for loops and for regions that draw their order.
Conditions: none. Generic: it speaks of no program.
-/
import Derived.Test.YtfphceknmgadgaaGreatDoorVmSound
set_option linter.unusedSimpArgs false
set_option linter.unusedVariables false
namespace Go.Vm
section
variable {P:Program} {n:Nat} {all:List Oper} {w0:World} {Q:Exit→Act→World→Prop} {X:List PanicEntry→AY→Prop}
theorem X1{o:Oper}{ρ:Ba}{h:AY}{K:Ba→AY→Prop}(hp:Ch o.op=true)(hs:BZ P n o ρ h K X): ∃ρ',K ρ' h:=by
 obtain⟨dst,op,ty,pos,aft,gd⟩:=o
 have put: ∀{v:Value},BJ n dst v ρ (fun ρ'=>K ρ' h)→ ∃ρ',K ρ' h:=by
  intro v hv
  cases dst with
  |none=>exact⟨ρ,hv⟩
  |some d=>exact⟨_,hv.2⟩
 have bin: ∀{op t x y},Cg P op t x y (fun v=>BJ n dst v ρ fun ρ'=>K ρ' h)→ ∃ρ',K ρ' h:=by
  intro op t x y hb
  unfold Cg at hb
  split at hb
  ·split at hb<;>exact put hb.2
  ·split at hb<;>first|exact put hb.2|exact put hb|exact hb.elim
  ·split at hb
   ·obtain⟨b,_,h2⟩:=AB hb.2;exact put h2
   ·obtain⟨b,_,h2⟩:=AB hb.2;exact put h2
   ·exact hb.elim
 simp only at hp
 unfold Ch at hp
 unfold BZ HL at hs
 split at hp
 ·obtain⟨v,_,h2⟩:=AB hs;exact put h2
 ·obtain⟨v,hv,h2⟩:=AB hs
  clear hv
  unfold QG at h2
  split at h2
  ·rename_i b
   cases b with
   |true=>obtain⟨u,_,h3⟩:=AB (h2.1 rfl);exact put h3
   |false=>obtain⟨u,_,h3⟩:=AB (h2.2 rfl);exact put h3
  ·exact h2.elim
 ·obtain⟨v,_,h2⟩:=AB hs
  simp only at h2
  split at h2
  ·obtain⟨u,_,h3⟩:=AB h2;exact put h3
  ·exact h2.elim
 ·obtain⟨u,_,h2⟩:=AB hs
  obtain⟨v,_,h2⟩:=AB h2
  exact bin h2
 ·obtain⟨v,_,h2⟩:=AB hs
  obtain⟨u,_,h2⟩:=AB h2
  exact put h2
 ·obtain⟨vs,_,h2⟩:=AB hs
  simp only at h2
  split at h2<;>first|exact h2.elim|skip
  all_goals first|cases ‹Builtin.len=_› |skip
  unfold GM at h2
  split at h2
  ·exact put h2.2
  ·obtain⟨_,_,h3⟩:=AB h2;exact put h3
  ·split at h2
   ·exact put h2
   ·exact h2.elim
  ·split at h2
   ·exact put h2
   ·exact h2.elim
  ·exact h2.elim
 ·cases hp
theorem Yg: ∀(m:Nat) (cur:Option (Nat×Bool)) (l:List Oper) (ρ:Ba) (h:AY) (K:Ba→AY→Prop),(∀o∈l,Ch o.op=true)→B7 P n all m cur l ρ h K X→ ∃ρ',K ρ' h:=by
 intro m
 induction m with
 |zero=>intro cur l ρ h K _ hd;cases hd
 | succ m ih=>
  intro cur l ρ h K hp hd
  cases l with
  |nil=>exact⟨ρ,hd⟩
  | cons o l=>
   unfold B7 at hd
   split at hd
   ·obtain⟨ρ',h1⟩:=X1 (hp o (List.mem_cons_self ..)) hd
    exact ih _ _ _ _ _ (fun x hx=>hp x (List.mem_cons_of_mem _ hx)) h1
   ·split at hd
    ·exact hd.elim
    ·rename_i j want hg
     obtain⟨s,hs,hd'⟩:=AB hd
     clear hd
     obtain⟨v,hv,hd⟩:=AB hd'
     clear hd'
     have hin: ∀x,x∈Bl cur (o::l)→Ch x.op=true:=fun x hx=>hp x (by rw[←Fe cur (o::l)];exact List.mem_append_left _ hx)
     have hout: ∀x,x∈CJ cur (o::l)→Ch x.op=true:=fun x hx=>hp x (by rw[←Fe cur (o::l)];exact List.mem_append_right _ hx)
     split at hd
     ·rename_i b
      obtain⟨_,hd⟩:=hd
      split at hd
      ·rename_i p after hpu haf
       split at hd
       ·obtain⟨ρ1,h1⟩:=ih _ _ _ _ _ hin hd
        obtain⟨c,_,h1⟩:=AB h1
        unfold C9 at h1
        split at h1
        ·have hp2: ∀x∈after,Ch x.op=true:=fun x hx=>hout x (by rw[haf];exact List.mem_cons_of_mem _ hx)
         cases hdst:p.dst with
         |none=>rw[hdst]at h1;exact ih _ _ _ _ _ hp2 h1
         |some d=>rw[hdst]at h1;exact ih _ _ _ _ _ hp2 h1.2
        ·exact h1.elim
       ·exact hd.elim
      ·by_cases hb:(b==want)=true
       ·obtain⟨ρ1,h1⟩:=ih _ _ _ _ _ hin (hd.1 hb)
        exact ih _ _ _ _ _ hout h1
       ·exact ih _ _ _ _ _ hout (hd.2 (by simpa using hb))
     ·exact hd.elim
theorem Xd: ∀(l:List Oper),EC l=true→ ∀o∈l,Ch o.op=true:=by
 intro l
 induction l with
 |nil=>intro _ o ho;cases ho
 |cons x l ih=>
  intro h o ho
  simp only[EC,Bool.and_eq_true]at h
  rcases List.mem_cons.1 ho with rfl|ho
  ·exact h.1
  ·exact ih h.2 o ho
theorem Fs{want:Bool}{s:Nat}{op:Op}{y:Operand}(h:Cs want s op=some y):
  (want=false∧op=.pick (.tmp s) (.const (.bool true)) y)∨(want=true∧op=.pick (.tmp s) y (.const (.bool false))):=by
 unfold Cs at h
 split at h
 ·split at h
  ·rename_i e;subst e;cases h;exact .inl ⟨rfl,rfl⟩
  ·cases h
 ·split at h
  ·rename_i e;subst e;cases h;exact .inr ⟨rfl,rfl⟩
  ·cases h
 ·cases h
set_option maxHeartbeats 1000000 in
theorem JG[dd:DefD](hX: ∀ch h a w,X ch h→CV n [] a→w.heap=h→BV w0 w→Q (.panic ch) a w): ∀(m:Nat) (cur:Option (Nat×Bool)) (rest:List Oper) (ρ:Ba) (K:Ba→AY→Prop) (a:Act) (w:World) (rest':List Oper),
  B7 P n all m cur rest ρ w.heap K X→CV n ρ a→BV w0 w→FZ all ρ cur rest→
  (∀ρ' a' w',K ρ' w'.heap→CV n ρ' a'→BV w0 w'→YD rest ρ ρ'→wpList P all.toArray Q rest' a' w')→wpList P all.toArray Q (rest++rest') a w:=by
 intro m
 induction m with
 |zero=>intro cur rest ρ K a w rest' hd;cases hd
 | succ m ih=>
  intro cur rest ρ K a w rest' hd hk hr hc hn
  cases rest with
  |nil=>exact hn ρ a w hd hk hr (fun t _=>rfl)
  | cons o l=>
   unfold B7 at hd
   split at hd
   ·rename_i hg
    have hw:=Ej hk hc hg
    show wpList P all.toArray Q (o::(l++rest')) a w
    unfold wpList
    rw[if_pos hw]
    refine .inl (FQ hX hd hk hr fun ρ' a' w' h1 h2 h3 h4=> ?_)
    refine ih cur l ρ' K a' w' rest' h1 h2 h3 ?_ fun ρ'' a'' w'' k1 k2 k3 k4=>hn ρ'' a'' w'' k1 k2 k3 fun t ht=> ?_
    ·cases cur with
     |none=>trivial
     |some c=>
      obtain⟨j,want⟩:=c
      obtain⟨s,e1,e2,e3⟩:=hc
      exact⟨s,e1,by rw[h4 s (e3 o (List.mem_cons_self ..)),e2],fun x hx=>e3 x (List.mem_cons_of_mem _ hx)⟩
    ·rw[k4 t (fun x hx=>ht x (List.mem_cons_of_mem _ hx)),h4 t (ht o (List.mem_cons_self ..))]
   ·rename_i hg
    split at hd
    ·exact hd.elim
    ·rename_i j want hgd
     obtain⟨s,hs,hd'⟩:=AB hd
     clear hd
     obtain⟨v,hv,hd⟩:=AB hd'
     clear hd'
     split at hd
     ·rename_i b
      obtain⟨hok,hd⟩:=hd
      have hsp:=Fe cur (o::l)
      generalize hgr:Bl cur (o::l)=g at*
      generalize haf:CJ cur (o::l)=after at*
      have hdst:=J9 _ _ hok
      have hgl: ∀x∈g,x∈o::l:=fun x hx=>by rw[←hsp];exact List.mem_append_left _ hx
      have hal: ∀x∈after,x∈o::l:=fun x hx=>by rw[←hsp];exact List.mem_append_right _ hx
      rw[←hsp,List.append_assoc]
      have hcurE: ∀{ρ1:Ba},YD g ρ ρ1→FZ all ρ1 cur after:=by
       intro ρ1 he
       cases cur with
       |none=>trivial
       |some c=>
        obtain⟨j',want'⟩:=c
        obtain⟨s',e1,e2,e3⟩:=hc
        exact⟨s',e1,by rw[he s' (fun x hx=>e3 x (hgl x hx)),e2],fun x hx=>e3 x (hal x hx)⟩
      have hskip: ∀{rest2:List Oper},b≠want→(∀a',CV n (DR g ρ) a'→a'.tmps[s]? =some (.bool b)→wpList P all.toArray Q rest2 a' w)→wpList P all.toArray Q (g++rest2) a w:=
       fun hb h2=>Ms hs hb g [] ρ a hok hk (hk.2.2 s _ hv) (fun s' hs'=>by cases hs') h2
      split at hd
      ·rename_i p after' hpu
       split at hd
       ·rename_i y hy
        have hpin: ∀x,x∈(p::after')→x∈o::l:=fun x hx=>hal x hx
        -- what follows the closing operation
        have fin: ∀(a':Act) (w':World) (ρ1:Ba) (c:Bool),BJ n p.dst (.bool c) (DR g ρ) (fun ρ''=>B7 P n all m cur after' ρ'' w'.heap K X)→CV n (DR g ρ) a'→BV w0 w'→
          wpList P all.toArray Q (after'++rest') (a'.put p.dst (.bool c)) w':=by
         intro a' w' ρ1 c h1 h2 h3
         obtain⟨ρ',h4,h5,h6⟩:=D5 h2 h1
         have he: ∀t,(∀x∈o::l,x.dst≠some t)→get ρ' t=get ρ t:=fun t ht=>by
          rw[h6 t (ht p (hpin p (List.mem_cons_self ..))),EX g ρ (fun x hx=>ht x (hgl x hx))]
         refine ih cur after' ρ' K _ w' rest' h4 h5 h3 ?_ fun ρ'' a'' w'' k1 k2 k3 k4=>hn ρ'' a'' w'' k1 k2 k3 fun t ht=> ?_
         ·cases cur with
          |none=>trivial
          |some c=>
           obtain⟨j',want'⟩:=c
           obtain⟨s',e1,e2,e3⟩:=hc
           exact⟨s',e1,by rw[he s' (fun x hx=>e3 x hx),e2],fun x hx=>e3 x (hpin x (List.mem_cons_of_mem _ hx))⟩
         ·rw[k4 t (fun x hx=>ht x (hpin x (List.mem_cons_of_mem _ hx))),he t ht]
        have hpw: ∀(ρ1:Ba) (a':Act),CV n ρ1 a'→FZ all ρ1 cur (p::after')→Region.wanted p (yielded all.toArray a'.tmps)=true:=by
         intro ρ1 a' h1 h2
         refine Ej h1 h2 ?_
         have: ∀(l:List Oper),CJ cur l=p::after'→p.guard=cur:=by
          intro l
          induction l with
          |nil=>intro h;simp[CJ]at h
          |cons x l ihl=>
           intro h
           unfold CJ at h
           split at h
           ·rename_i hx;simp at h;rw[←h.1];exact hx
           ·exact ihl h
         exact this _ haf
        by_cases hb:b=want
        ·subst hb
         refine ih (some (j,b)) g ρ _ a w ((p::after')++rest') hd hk hr ⟨s,hs,hv,hdst⟩ fun ρ1 a' w' k1 k2 k3 k4=> ?_
         obtain⟨c,hc1,k1⟩:=AB k1
         unfold C9 at k1
         split at k1
         ·rename_i c'
          have hOk:CV n (DR g ρ) a':=⟨k2.1,k2.2.1,fun t u ht=>by
           obtain⟨h1,h2⟩:=Tt _ _ ht
           exact k2.2.2 t u (by rw[k4 t h1];exact h2)⟩
          show wpList P all.toArray Q (p::(after'++rest')) a' w'
          unfold wpList
          rw[if_pos (hpw ρ1 a' k2 (hcurE k4))]
          refine .inl ?_
          have hcond:a'.eval (.tmp s)=.bool b:=Ac k2 (by simp only[BE];rw[k4 s hdst];exact hv)
          have hyv:a'.eval y=.bool c':=Ac k2 hc1
          have hrun:(execOp a'.eval p).run P w'=.ok (.value (.bool (De b b c'))) w':=by
           rcases Fs hy with⟨e,hop⟩|⟨e,hop⟩
           ·subst e;simp[execOp,hop,hcond,hyv,asBool,De]
           ·subst e;simp[execOp,hop,hcond,hyv,asBool,De]
          unfold Oper.wp
          rw[hrun]
          exact fin a' w' ρ1 _ k1 hOk k3
         ·exact k1.elim
        ·obtain⟨ρ1,h1⟩:=Yg m _ g ρ w.heap _ (Xd g hpu) hd
         obtain⟨c,hc1,h1⟩:=AB h1
         unfold C9 at h1
         split at h1
         ·rename_i c'
          refine hskip hb fun a' h2 h3=> ?_
          show wpList P all.toArray Q (p::(after'++rest')) a' w
          unfold wpList
          have hch:FZ all (DR g ρ) cur (p::after'):=hcurE (fun t ht=>EX g ρ ht)
          rw[if_pos (hpw _ a' h2 hch)]
          refine .inl ?_
          have hcond:a'.eval (.tmp s)=.bool b:=by
           simp only[Act.eval];rw[Array.getD_eq_getD_getElem?,h3];rfl
          have hrun:(execOp a'.eval p).run P w=.ok (.value (.bool (De want b c'))) w:=by
           rcases Fs hy with⟨e,hop⟩|⟨e,hop⟩
           ·subst e
            have:b=true:=by simpa using hb
            subst this
            simp[execOp,hop,hcond,asBool,De,Act.eval]
            simp[Act.eval]at hcond
            simp[hcond]
           ·subst e
            have:b=false:=by simpa using hb
            subst this
            simp[execOp,hop,hcond,asBool,De,Act.eval]
            simp[Act.eval]at hcond
            simp[hcond]
          unfold Oper.wp
          rw[hrun]
          exact fin a' w ρ1 _ h1 h2 hr
         ·exact h1.elim
       ·exact hd.elim
      ·rename_i after _ _ _
       by_cases hb:b=want
       ·subst hb
        refine ih (some (j,b)) g ((s,some (.bool b))::ρ) _ a w (after++rest') (hd.1 (by simp)) (hk.again hv) hr ⟨s,hs,(Dc hv s).trans hv,hdst⟩ fun ρ1 a' w' k1 k2 k3 k4=> ?_
        replace k4:YD g ρ ρ1:=fun t ht=>(k4 t ht).trans (Dc hv t)
        refine ih cur after ρ1 K a' w' rest' k1 k2 k3 (hcurE k4) fun ρ'' a'' w'' q1 q2 q3 q4=>hn ρ'' a'' w'' q1 q2 q3 fun t ht=> ?_
        rw[q4 t (fun x hx=>ht x (hal x hx)),k4 t (fun x hx=>ht x (hgl x hx))]
       ·have hbw:(!want)=b:=by cases b<;>cases want<;>simp at hb⊢
        have hd2:=hd.2 (by simpa using hb)
        rw[hbw]at hd2
        refine Ms hs hb g [] ((s,some (.bool b))::ρ) a hok (hk.again hv) (hk.2.2 s _ hv) (fun s' hs'=>by cases hs') fun a' h2 h3=> ?_
        have he:YD g ρ (DR g ((s,some (.bool b))::ρ)):=fun t ht=>(EX g _ ht).trans (Dc hv t)
        refine ih cur after (DR g ((s,some (.bool b))::ρ)) K a' w rest' hd2 h2 hr (hcurE he) fun ρ'' a'' w'' q1 q2 q3 q4=>hn ρ'' a'' w'' q1 q2 q3 fun t ht=> ?_
        rw[q4 t (fun x hx=>ht x (hal x hx)),he t (fun x hx=>ht x (hgl x hx))]
     ·exact hd.elim
end
theorem Xm{l:List Nat}{ρ:Ba}{t:Nat}{v:Value}(h:get (canon l ρ) t=some v):get ρ t=some v:=by
 induction l with
 |nil=>cases h
 | cons s l ih=>
  unfold canon RN at h
  split at h
  ·rename_i u hu
   simp only[get]at h
   split at h
   ·rename_i e;subst e;rw[hu];exact h
   ·exact ih h
  ·exact ih h
theorem CV.canon[dd:DefD]{n:Nat}{ρ:Ba}{a:Act}(hk:CV n ρ a)(l:List Nat):CV n (canon l ρ) a:=⟨hk.1,hk.2.1,fun t v h=>hk.2.2 t v (Xm h)⟩
section
variable {P:Program} {b:Frame} {k:List Item} {a:Act} {w:World} {R:Ending→World→Prop}
theorem DQ.step_[dd:DefD]{k':List Item}{a':Act}{w':World}(h: ∀cs,step P (lone (b.at a k) cs w)=.next (lone (b.at a' k') cs w'))(hT:DQ P b k' a' w' R):DQ P b k a w R:=fun cs=>
 let ⟨e,w2,fr,hr,hc,hf,hl⟩:=hT cs
 ⟨e,w2,fr,hr,Comes.of_steps (.one (h cs)) hc,hf,hl⟩
theorem DQ.of_wp[dd:DefD]{x:Code}{Q:Exit→Act→World→Prop}(h:x.wp P Q a w)(hf: ∃fn,P.funcs[b.fn]? =some fn)
  (hQ: ∀e a' w',Q e a' w'→match e with| .normal=>DQ P b k a' w' R| .panic ch=>a'.defers=DefD.ds∧R (.panicked ch) w'|_=>False):DQ P b (.code x::k) a w R:=by
 intro cs
 obtain⟨e,a',w',hq,harr⟩:=h b k cs
 have:=hQ e a' w' hq
 cases e with
 |normal=>
  obtain⟨e2,w2,fr,hr,hc,hfn,hl⟩:=this cs
  exact⟨e2,w2,fr,hr,Comes.of_steps harr hc,hfn,hl⟩
 |panic ch=>
  obtain⟨hd,hR⟩:=this
  obtain⟨todo,hs⟩:=harr
  obtain⟨fn,hfn⟩:=hf
  exact⟨.panicked ch,w',_,hR,hs,rfl,rfl,hd,fn,hfn⟩
 |exit _=>exact this.elim
 |goto _=>exact this.elim
 |ret=>exact this.elim
 |outgrown=>exact this.elim
theorem DQ.done[dd:DefD]{fn:Func}{v:Value}{m:Frame}(hb:b.kind=DefD.kd)(hd:a.defers=DefD.ds)(hf:P.funcs[b.fn]? =some fn)(hr:(results fn a.tmps).run P w=.ok v w)(hR:R (.returned v) w)
  (hs: ∀cs,step P (lone (b.at a k) cs w)=.next (lone {b.at a k with mode:=.returning} cs w)):DQ P b k a w R:=fun cs=>
 ⟨.returned v,w,_,hR,.one (hs cs),rfl,rfl,hd,hb,fn,hf,hr⟩
theorem Rt{c:Code}{cs:List Frame}:step P (lone (b.at a (.code (.scope c)::k)) cs w)=.next (lone (b.at a (.code c:: .inScope c::k)) cs w):=
 step_lone_go (by simp[stepG,stepG.exec,Frame.at])
theorem NA{c:Code}{cs:List Frame}:step P (lone (b.at a (.inScope c::k)) cs w)=.next (lone (b.at a k) cs w):=
 step_lone_go (by simp[stepG,stepG.exec,Frame.at])
end
def cD(tmps:Array Value):ResultVar→Sem Value
 | .tmp t=>Pure.pure (tmps.getD t undef)
 | .cell s t=>do loadVar t (←asAddr (tmps.getD s undef))
theorem Tf(fn:Func)(tmps:Array Value):results fn tmps=(do
  let vs←fn.results.mapM (cD tmps)
  Pure.pure (if h:vs.size=1 then vs[0]else .tuple vs)):=rfl
theorem T3[dd:DefD]{P:Program}{n:Nat}{ρ:Ba}{a:Act}{w:World}(hk:CV n ρ a){r:ResultVar}{v:Value}(hr:P5 P ρ w.heap r=some v):(cD a.tmps r).run P w=.ok v w:=by
 cases r with
 |tmp t=>
  have:a.tmps.getD t undef=v:=Ac hk (x:=.tmp t) hr
  simp only[cD,this,Sem.run_pure]
 | cell s ty=>
  simp only[P5]at hr
  unfold qU at hr
  split at hr
  ·rename_i ad had
   unfold O4 at had
   split at had
   ·rename_i p hp
    have hpp:a.tmps.getD s undef=p:=Ac hk (x:=.tmp s) hp
    have:=DT had
    subst this
    simp only[cD,hpp,asAddr,Sem.run_bind,Sem.run_pure,Result.andThen_ok,FK rfl hr]
   ·cases had
  ·cases hr
theorem Lb[dd:DefD]{P:Program}{n:Nat}{ρ:Ba}{a:Act}{w:World}(hk:CV n ρ a): ∀{rs:List ResultVar} {vs:List Value},JB P ρ w.heap rs=some vs→(rs.mapM (cD a.tmps)).run P w=.ok vs w
 | [],vs,h=>by simp[JB]at h;subst h;simp
 | r::rs,vs,h=>by
  simp only[JB]at h
  cases hr:P5 P ρ w.heap r with
  |none=>simp[hr,Dy]at h
  | some v=>cases hl:JB P ρ w.heap rs with
   |none=>simp[hr,hl,Dy]at h
   |some us=>
    simp[hr,hl,Dy]at h
    subst h
    simp only[List.mapM_cons,Sem.run_bind,T3 hk hr,Result.andThen_ok,Lb hk hl,Sem.run_pure]
theorem FT[dd:DefD]{P:Program}{fn:Func}{n:Nat}{ρ:Ba}{a:Act}{w:World}{vs:List Value}(hk:CV n ρ a)(h:JB P ρ w.heap fn.results.toList=some vs):(results fn a.tmps).run P w=.ok (one vs) w:=by
 have:=Lb hk h
 rw[Tf]
 simp only[Sem.run_bind]
 rw[Array.mapM_eq_mapM_toList]
 simp only[Sem.run_map,this,Result.andThen_ok,Sem.run_pure]
 congr 1
 rcases vs with _|⟨v,_|⟨u,vs⟩⟩<;>rfl
theorem HY[dd:DefD]{c:Cx}{ρ:Ba}{b:Frame}{a:Act}{w w0:World}{k:List Item}(hf:c.P.funcs[c.f]? =some c.fn)(hb:b.fn=c.f)(hn:b.kind=DefD.kd)(hk:CV c.n ρ a)(hr:BV w0 w)(h:Tr c ρ w.heap)
  (hs: ∀cs,step c.P (lone (b.at a k) cs w)=.next (lone {b.at a k with mode:=.returning} cs w)):DQ c.P b k a w fun e w'=>c.R e w'.heap∧BV w0 w':=by
 obtain⟨vs,hv,hR⟩:=AB h
 exact DQ.done (m:=b) hn hk.1 (by rw[hb];exact hf) (FT hk hv) ⟨hR,hr⟩ hs
theorem EN{id:Nat}: ∀{k k':List It},Cu id k=some k'→exitTo id (k.map It.item)=some (k'.map It.item)
 | [],_,h=>by cases h
 | .blk i::k,k',h=>by
  unfold Cu at h
  simp only[List.map_cons,It.item,exitTo]
  split at h
  ·rename_i e;subst e;cases h;simp
  ·rename_i e
   rw[if_neg (by simpa using e)]
   exact EN h
 | .code x::k,k',h=>by simp only[List.map_cons,It.item,exitTo];exact EN (by simpa[Cu]using h)
 | .lp x::k,k',h=>by simp only[List.map_cons,It.item,exitTo];exact EN (by simpa[Cu]using h)
 | .sc x::k,k',h=>by simp only[List.map_cons,It.item,exitTo];exact EN (by simpa[Cu]using h)
theorem Gg.canon[dd:DefD]{c:Cx}{k:List It}{ρ:Ba}{h:AY}{l:List Nat}(hm: @Gg dd c k (canon l ρ) h ()): @Gg dd c k ρ h ():=fun hf b a w h1 h2 hk hw=>hm hf b a w h1 h2 (hk.canon l) hw
def YZ[dd:DefD](c:Cx)(w0:World)(k:List It)(ρ:Ba)(h:AY):Prop:=
 c.P.funcs[c.f]? =some c.fn→ ∀(b:Frame) (a:Act) (w:World),b.fn=c.f→b.kind=DefD.kd→CV c.n ρ a→w.heap=h→BV w0 w→DQ c.P b (k.map It.item) a w fun e w'=>c.R e w'.heap∧BV w0 w'
theorem Gg.rest[dd:DefD]{c:Cx}{k:List It}{ρ:Ba}{h:AY}(hm: @Gg dd c k ρ h ())(w0:World):YZ c w0 k ρ h:=fun hf b a w h1 h2 hk hw hr=>fun cs=>
 let ⟨e,w',fr,hR,rest⟩:=hm hf b a w h1 h2 hk hw cs
 ⟨e,w',fr,⟨hR.1,hr.trans hR.2⟩,rest⟩
theorem Bh.run[dd:DefD]{c:Cx}{body:Code}{k:List It}{ρ:Ba}{h:AY}{l:List Nat}(hm: @Bh dd c body k (Vm.canon l ρ) h ())(w0:World)(hf:c.P.funcs[c.f]? =some c.fn)(b:Frame)(a:Act)(w:World)(h1:b.fn=c.f)(h2:b.kind=DefD.kd)(hk:CV c.n ρ a)(hw:w.heap=h)(hr:BV w0 w):
  DQ c.P b (.code body:: .inLoop body::k.map It.item) a w fun e w'=>c.R e w'.heap∧BV w0 w':=fun cs=>
 let ⟨e,w',fr,hR,rest⟩:=hm hf b a w h1 h2 (hk.canon l) hw cs
 ⟨e,w',fr,⟨hR.1,hr.trans hR.2⟩,rest⟩
theorem Df[dd:DefD](c:Cx): ∀(N:Nat) (k:List It) (ρ:Ba) (h:AY),Jo k≤N→C8 c k ρ h→ ∀w0,YZ c w0 k ρ h:=by
 intro N
 induction N with
 | zero=>
  intro k ρ h hN hd w0 hf b a w hb hn hk hw hr
  have:k=[]:=by
   cases k with
   |nil=>rfl
   |cons x k=>
    simp only[Jo]at hN
    have:0<Ma x:=by cases x<;>simp[Ma];rename_i c;cases c<;>simp[HW]
    omega
  subst this hw
  rw[C8]at hd
  exact HY hf hb hn hk hr hd fun cs=>step_end
 | succ N ih=>
  intro k ρ h hN hd w0 hf b a w hb hn hk hw hr
  cases k with
  |nil=>
   subst hw
   rw[C8]at hd
   exact HY hf hb hn hk hr hd fun cs=>step_end
  | cons x k=>
   simp only[Jo]at hN
   cases x with
   |blk id=>
    rw[C8]at hd
    exact .step_ (fun cs=>step_inBlock) (ih k ρ h (by simp only[Ma]at hN;omega) hd w0 hf b a w hb hn hk hw hr)
   |sc y=>
    rw[C8]at hd
    exact .step_ (fun cs=>NA) (ih k ρ h (by simp only[Ma]at hN;omega) hd w0 hf b a w hb hn hk hw hr)
   |lp y=>
    rw[C8]at hd
    exact .step_ (k':=.code y:: .inLoop y::k.map It.item) (fun cs=>step_inLoop) (hd.run w0 hf b a w hb hn hk hw hr)
   | code y=>
    simp only[Ma]at hN
    cases y with
    |skip=>
     rw[C8]at hd
     exact .step_ (fun cs=>step_skip) (ih k ρ h (by simp only[HW]at hN;omega) hd w0 hf b a w hb hn hk hw hr)
    |label l=>
     rw[C8]at hd
     exact .step_ (fun cs=>step_label) (ih k ρ h (by simp only[HW]at hN;omega) hd w0 hf b a w hb hn hk hw hr)
    |ret=>
     subst hw
     rw[C8]at hd
     exact HY hf hb hn hk hr hd fun cs=>step_ret
    |seq x y=>
     rw[C8]at hd
     exact .step_ (fun cs=>step_seq) (ih (.code x:: .code y::k) ρ h (by simp only[HW,Jo,Ma]at hN ⊢;omega) hd w0 hf b a w hb hn hk hw hr)
    |block id x=>
     rw[C8]at hd
     exact .step_ (fun cs=>step_block) (ih (.code x:: .blk id::k) ρ h (by simp only[HW,Jo,Ma]at hN ⊢;omega) hd w0 hf b a w hb hn hk hw hr)
    |scope x=>
     rw[C8]at hd
     exact .step_ (fun cs=>Rt) (ih (.code x:: .sc x::k) ρ h (by simp only[HW,Jo,Ma]at hN ⊢;omega) hd w0 hf b a w hb hn hk hw hr)
    |loop x=>
     rw[C8]at hd
     exact .step_ (k':=.code x:: .inLoop x::k.map It.item) (fun cs=>step_loop) (hd.run w0 hf b a w hb hn hk hw hr)
    | exit id=>
     rw[C8]at hd
     split at hd
     ·rename_i k' hk'
      exact .step_ (fun cs=>step_exit (EN hk')) (ih k' ρ h (by have:=EM _ _ _ hk';simp only[HW]at hN;omega) hd w0 hf b a w hb hn hk hw hr)
     ·exact hd.elim
    | cond x t e=>
     rw[C8]at hd
     obtain⟨v,hv,hd⟩:=AB hd
     unfold QG at hd
     split at hd
     ·rename_i q
      have hev:=Ac hk hv
      refine .step_ (fun cs=>step_cond hev) ?_
      cases q with
      |true=>exact ih (.code t::k) ρ h (by simp only[HW,Jo,Ma]at hN ⊢;omega) (hd.1 rfl) w0 hf b a w hb hn hk hw hr
      |false=>exact ih (.code e::k) ρ h (by simp only[HW,Jo,Ma]at hN ⊢;omega) (hd.2 rfl) w0 hf b a w hb hn hk hw hr
     ·exact hd.elim
    | region id ops draw=>
     cases draw with
     |true=>
      rw[C8]at hd
      exact hd.canon.rest w0 hf b a w hb hn hk hw hr
     | false=>
      subst hw
      rw[C8]at hd
      refine .of_wp (Q:=fun e a' w'=>match e with| .normal=>DQ c.P b (k.map It.item) a' w' (fun e w'=>c.R e w'.heap∧BV w0 w')| .panic ch=>a'.defers=DefD.ds∧(c.R (.panicked ch) w'.heap∧BV w0 w')|_=>False) ?_ ⟨c.fn,by rw[hb];exact hf⟩ (fun e a' w' hq=>hq)
      have hop:=JG (all:=ops.toList) (w0:=w0) (Q:=fun e a' w'=>match e with| .normal=>DQ c.P b (k.map It.item) a' w' (fun e w'=>c.R e w'.heap∧BV w0 w')| .panic ch=>a'.defers=DefD.ds∧(c.R (.panicked ch) w'.heap∧BV w0 w')|_=>False)
       (fun ch h a w h1 h2 h3 h4=>⟨h2.1,by rw[h3];exact h1,h4⟩) _ none ops.toList _ _ a w [] hd (hk.canon _) hr trivial
       (fun ρ' a' w' k1 k2 k3 _=>wpList_nil (ih k ρ' w'.heap (by simp only[HW]at hN;omega) k1 w0 hf b a' w' hb hn k2 rfl k3))
      rw[List.append_nil]at hop
      have:=wp_region_lit (id:=id) (l:=ops.toList) hop
      simpa using this
    |rangeFunc _ _ _ _=>unfold C8 at hd;exact hd.elim
    |goto _=>unfold C8 at hd;exact hd.elim
    |refuse _=>unfold C8 at hd;exact hd.elim
def J3:Nat→List Value→Ba
 |_,[]=>[]
 |i,v::l=>(i,some v)::J3 (i+1) l
theorem Mj: ∀(l:List Value) (i t:Nat) (v:Value),get (J3 i l) t=some v→ ∃j,t=i+j∧l[j]? =some v
 | [],_,_,_,h=>by cases h
 | u::l,i,t,v,h=>by
  simp only[J3,get]at h
  split at h
  ·rename_i e;exact⟨0,e.symm,by simpa using h⟩
  ·obtain⟨j,h1,h2⟩:=Mj l (i+1) t v h
   exact⟨j+1,by omega,by simpa using h2⟩
@[reducible] def dd0:DefD:=⟨[],.normal⟩
theorem BO(c:Cx){code:Code}{args:List Value}{h:AY}(hf:c.P.funcs[c.f]? =some c.fn)(hb:c.fn.body=some code)(hn:c.fn.ntmps=c.n)(ha:args.length≤c.n)
  (hd: @C8 dd0 c [.code code] (J3 0 args) h):CallsH c.P c.f args.toArray h c.R:=by
 intro w hw cs
 let b:Frame:={(default:Frame)with fn:=c.f,kind:=.normal}
 let a:Act:={tmps:=args.toArray++Array.replicate (c.fn.ntmps - args.toArray.size) undef,defers:=[]}
 have henter:Frame.enter c.P c.f args.toArray .normal=b.at a [.code code]:=by
  simp[Frame.enter,Frame.at,hf,hb,b,a]
 have hk: @CV dd0 c.n (J3 0 args) a:=by
  refine⟨rfl,by simp[a,hn];omega,fun t v ht=> ?_⟩
  obtain⟨j,h1,h2⟩:=Mj args 0 t v ht
  have hj:j<args.length:=by
   rcases Nat.lt_or_ge j args.length with h|h
   ·exact h
   ·rw[List.getElem?_eq_none h]at h2;cases h2
  have:t=j:=by omega
  subst this
  simp only[a,Array.getElem?_append]
  rw[if_pos (by simpa using hj)]
  simpa using h2
 have:= @Df dd0 c _ _ _ _ (Nat.le_refl _) hd w hf b a w rfl rfl hk hw (BV.refl w) cs
 obtain⟨e,w',fr,hR,hc,hfn,hl⟩:=this
 refine⟨e,w',fr,hR, ?_,hfn,hl⟩
 rw[henter]
 exact hc
theorem Bh.intro[dd:DefD]{c:Cx}{body:Code}{k:List It}{ρ:Ba}{h:AY}(hd:C8 c (.code body:: .lp body::k) ρ h): @Bh dd c body k ρ h ():=fun hf b a w h1 h2 hk hw=>
 Df c _ _ _ _ (Nat.le_refl _) hd w hf b a w h1 h2 hk hw (BV.refl w)
theorem CallsH.calls{P:Program}{f:FuncId}{args:Array Value}{w:World}{R:Ending→AY→Prop}(hc:CallsH P f args w.heap R):Calls P f args w fun e w'=>R e w'.heap∧BV w w':=hc w rfl
theorem QS(i:Nat):J3 i []=[]:=rfl
theorem O6(i:Nat)(v:Value)(l:List Value):J3 i (v::l)=(i,some v)::J3 (i+1) l:=rfl
end Go.Vm
