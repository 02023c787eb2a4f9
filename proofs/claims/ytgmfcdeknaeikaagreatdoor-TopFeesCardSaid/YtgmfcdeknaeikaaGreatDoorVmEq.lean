/-
Equations of the evaluator.
Conditions: none.
-/
import Derived.Test.YtgmfcdeknaeikaaGreatDoorVmSound
set_option linter.unusedSimpArgs false
set_option linter.unusedVariables false
set_option linter.defProp false
namespace Go.Vm
section
variable {P:Program} {n:Nat} {all:List Oper} {w0:World} {Q:Exit→Act→World→Prop} {X:List PanicEntry→AL→Prop}
theorem XK{o:Oper}{ρ:Ak}{h:AL}{K:Ak→AL→Prop}(hp:Bk o.op=true)(hs:Am P n o ρ h K X): ∃ρ',K ρ' h:=by
 obtain⟨dst,op,ty,pos,aft,gd⟩:=o
 have put: ∀{v:Value},Ac n dst v ρ (fun ρ'=>K ρ' h)→ ∃ρ',K ρ' h:=by
  intro v hv
  cases dst with
  |none=>exact⟨ρ,hv⟩
  |some d=>exact⟨_,hv.2⟩
 have bin: ∀{op t x y},Bg P op t x y (fun v=>Ac n dst v ρ fun ρ'=>K ρ' h)→ ∃ρ',K ρ' h:=by
  intro op t x y hb
  unfold Bg at hb
  split at hb
  ·split at hb<;>exact put hb.2
  ·split at hb<;>first|exact put hb.2|exact put hb|exact hb.elim
  ·split at hb
   ·obtain⟨b,_,h2⟩:=AB hb.2;exact put h2
   ·obtain⟨b,_,h2⟩:=AB hb.2;exact put h2
   ·exact hb.elim
 simp only at hp
 unfold Bk at hp
 unfold Am HY at hs
 split at hp
 ·obtain⟨v,_,h2⟩:=AB hs;exact put h2
 ·obtain⟨v,hv,h2⟩:=AB hs
  clear hv
  unfold Pc at h2
  split at h2
  ·rename_i b
   cases b with
   |true=>obtain⟨u,_,h3⟩:=AB (h2.1 rfl);exact put h3
   |false=>obtain⟨u,_,h3⟩:=AB (h2.2 rfl);exact put h3
  ·exact h2.elim
 ·obtain⟨v,_,h2⟩:=AB hs
  simp only at h2
  split at h2
  ·obtain⟨u,_,h3⟩:=AB h2;exact put h3
  ·exact h2.elim
 ·obtain⟨u,_,h2⟩:=AB hs
  obtain⟨v,_,h2⟩:=AB h2
  exact bin h2
 ·obtain⟨v,_,h2⟩:=AB hs
  obtain⟨u,_,h2⟩:=AB h2
  exact put h2
 ·obtain⟨vs,_,h2⟩:=AB hs
  simp only at h2
  split at h2<;>first|exact h2.elim|skip
  all_goals first|cases ‹Builtin.len=_› |skip
  unfold G4 at h2
  split at h2
  ·exact put h2.2
  ·obtain⟨_,_,h3⟩:=AB h2;exact put h3
  ·split at h2
   ·exact put h2
   ·exact h2.elim
  ·split at h2
   ·exact put h2
   ·exact h2.elim
  ·exact h2.elim
 ·cases hp
theorem bY: ∀(m:Nat) (cur:Option (Nat×Bool)) (l:List Oper) (ρ:Ak) (h:AL) (K:Ak→AL→Prop),(∀o∈l,Bk o.op=true)→BK P n all m cur l ρ h K X→ ∃ρ',K ρ' h:=by
 intro m
 induction m with
 |zero=>intro cur l ρ h K _ hd;cases hd
 | succ m ih=>
  intro cur l ρ h K hp hd
  cases l with
  |nil=>exact⟨ρ,hd⟩
  | cons o l=>
   unfold BK at hd
   split at hd
   ·obtain⟨ρ',h1⟩:=XK (hp o (List.mem_cons_self ..)) hd
    exact ih _ _ _ _ _ (fun x hx=>hp x (List.mem_cons_of_mem _ hx)) h1
   ·split at hd
    ·exact hd.elim
    ·rename_i j want hg
     obtain⟨s,hs,hd'⟩:=AB hd
     clear hd
     obtain⟨v,hv,hd⟩:=AB hd'
     clear hd'
     have hin: ∀x,x∈A7 cur (o::l)→Bk x.op=true:=fun x hx=>hp x (by rw[←F4 cur (o::l)];exact List.mem_append_left _ hx)
     have hout: ∀x,x∈BQ cur (o::l)→Bk x.op=true:=fun x hx=>hp x (by rw[←F4 cur (o::l)];exact List.mem_append_right _ hx)
     split at hd
     ·rename_i b
      obtain⟨_,hd⟩:=hd
      split at hd
      ·rename_i p after hpu haf
       split at hd
       ·obtain⟨ρ1,h1⟩:=ih _ _ _ _ _ hin hd
        obtain⟨c,_,h1⟩:=AB h1
        unfold CO at h1
        split at h1
        ·have hp2: ∀x∈after,Bk x.op=true:=fun x hx=>hout x (by rw[haf];exact List.mem_cons_of_mem _ hx)
         cases hdst:p.dst with
         |none=>rw[hdst]at h1;exact ih _ _ _ _ _ hp2 h1
         |some d=>rw[hdst]at h1;exact ih _ _ _ _ _ hp2 h1.2
        ·exact h1.elim
       ·exact hd.elim
      ·by_cases hb:(b==want)=true
       ·obtain⟨ρ1,h1⟩:=ih _ _ _ _ _ hin (hd.1 hb)
        exact ih _ _ _ _ _ hout h1
       ·exact ih _ _ _ _ _ hout (hd.2 (by simpa using hb))
     ·exact hd.elim
theorem XD: ∀(l:List Oper),Dy l=true→ ∀o∈l,Bk o.op=true:=by
 intro l
 induction l with
 |nil=>intro _ o ho;cases ho
 |cons x l ih=>
  intro h o ho
  simp only[Dy,Bool.and_eq_true]at h
  rcases List.mem_cons.1 ho with rfl|ho
  ·exact h.1
  ·exact ih h.2 o ho
theorem GE{want:Bool}{s:Nat}{op:Op}{y:Operand}(h:Bv want s op=some y):
  (want=false∧op=.pick (.tmp s) (.const (.bool true)) y)∨(want=true∧op=.pick (.tmp s) y (.const (.bool false))):=by
 unfold Bv at h
 split at h
 ·split at h
  ·rename_i e;subst e;cases h;exact .inl ⟨rfl,rfl⟩
  ·cases h
 ·split at h
  ·rename_i e;subst e;cases h;exact .inr ⟨rfl,rfl⟩
  ·cases h
 ·cases h
set_option maxHeartbeats 1000000 in
theorem JQ[dd:DefD](hX: ∀ch h a w,X ch h→BO n [] a→w.heap=h→Ai w0 w→Q (.panic ch) a w): ∀(m:Nat) (cur:Option (Nat×Bool)) (rest:List Oper) (ρ:Ak) (K:Ak→AL→Prop) (a:Act) (w:World) (rest':List Oper),
  BK P n all m cur rest ρ w.heap K X→BO n ρ a→Ai w0 w→Fs all ρ cur rest→
  (∀ρ' a' w',K ρ' w'.heap→BO n ρ' a'→Ai w0 w'→YG rest ρ ρ'→wpList P all.toArray Q rest' a' w')→wpList P all.toArray Q (rest++rest') a w:=by
 intro m
 induction m with
 |zero=>intro cur rest ρ K a w rest' hd;cases hd
 | succ m ih=>
  intro cur rest ρ K a w rest' hd hk hr hc hn
  cases rest with
  |nil=>exact hn ρ a w hd hk hr (fun t _=>rfl)
  | cons o l=>
   unfold BK at hd
   split at hd
   ·rename_i hg
    have hw:=EZ hk hc hg
    show wpList P all.toArray Q (o::(l++rest')) a w
    unfold wpList
    rw[if_pos hw]
    refine .inl (Ff hX hd hk hr fun ρ' a' w' h1 h2 h3 h4=> ?_)
    refine ih cur l ρ' K a' w' rest' h1 h2 h3 ?_ fun ρ'' a'' w'' k1 k2 k3 k4=>hn ρ'' a'' w'' k1 k2 k3 fun t ht=> ?_
    ·cases cur with
     |none=>trivial
     |some c=>
      obtain⟨j,want⟩:=c
      obtain⟨s,e1,e2,e3⟩:=hc
      exact⟨s,e1,by rw[h4 s (e3 o (List.mem_cons_self ..)),e2],fun x hx=>e3 x (List.mem_cons_of_mem _ hx)⟩
    ·rw[k4 t (fun x hx=>ht x (List.mem_cons_of_mem _ hx)),h4 t (ht o (List.mem_cons_self ..))]
   ·rename_i hg
    split at hd
    ·exact hd.elim
    ·rename_i j want hgd
     obtain⟨s,hs,hd'⟩:=AB hd
     clear hd
     obtain⟨v,hv,hd⟩:=AB hd'
     clear hd'
     split at hd
     ·rename_i b
      obtain⟨hok,hd⟩:=hd
      have hsp:=F4 cur (o::l)
      generalize hgr:A7 cur (o::l)=g at*
      generalize haf:BQ cur (o::l)=after at*
      have hdst:=KF _ _ hok
      have hgl: ∀x∈g,x∈o::l:=fun x hx=>by rw[←hsp];exact List.mem_append_left _ hx
      have hal: ∀x∈after,x∈o::l:=fun x hx=>by rw[←hsp];exact List.mem_append_right _ hx
      rw[←hsp,List.append_assoc]
      have hcurE: ∀{ρ1:Ak},YG g ρ ρ1→Fs all ρ1 cur after:=by
       intro ρ1 he
       cases cur with
       |none=>trivial
       |some c=>
        obtain⟨j',want'⟩:=c
        obtain⟨s',e1,e2,e3⟩:=hc
        exact⟨s',e1,by rw[he s' (fun x hx=>e3 x (hgl x hx)),e2],fun x hx=>e3 x (hal x hx)⟩
      have hskip: ∀{rest2:List Oper},b≠want→(∀a',BO n (Ck g ρ) a'→a'.tmps[s]? =some (.bool b)→wpList P all.toArray Q rest2 a' w)→wpList P all.toArray Q (g++rest2) a w:=
       fun hb h2=>MU hs hb g [] ρ a hok hk (hk.2.2 s _ hv) (fun s' hs'=>by cases hs') h2
      split at hd
      ·rename_i p after' hpu
       split at hd
       ·rename_i y hy
        have hpin: ∀x,x∈(p::after')→x∈o::l:=fun x hx=>hal x hx
        -- what follows the closing operation
        have fin: ∀(a':Act) (w':World) (ρ1:Ak) (c:Bool),Ac n p.dst (.bool c) (Ck g ρ) (fun ρ''=>BK P n all m cur after' ρ'' w'.heap K X)→BO n (Ck g ρ) a'→Ai w0 w'→
          wpList P all.toArray Q (after'++rest') (a'.put p.dst (.bool c)) w':=by
         intro a' w' ρ1 c h1 h2 h3
         obtain⟨ρ',h4,h5,h6⟩:=Dq h2 h1
         have he: ∀t,(∀x∈o::l,x.dst≠some t)→get ρ' t=get ρ t:=fun t ht=>by
          rw[h6 t (ht p (hpin p (List.mem_cons_self ..))),ER g ρ (fun x hx=>ht x (hgl x hx))]
         refine ih cur after' ρ' K _ w' rest' h4 h5 h3 ?_ fun ρ'' a'' w'' k1 k2 k3 k4=>hn ρ'' a'' w'' k1 k2 k3 fun t ht=> ?_
         ·cases cur with
          |none=>trivial
          |some c=>
           obtain⟨j',want'⟩:=c
           obtain⟨s',e1,e2,e3⟩:=hc
           exact⟨s',e1,by rw[he s' (fun x hx=>e3 x hx),e2],fun x hx=>e3 x (hpin x (List.mem_cons_of_mem _ hx))⟩
         ·rw[k4 t (fun x hx=>ht x (hpin x (List.mem_cons_of_mem _ hx))),he t ht]
        have hpw: ∀(ρ1:Ak) (a':Act),BO n ρ1 a'→Fs all ρ1 cur (p::after')→Region.wanted p (yielded all.toArray a'.tmps)=true:=by
         intro ρ1 a' h1 h2
         refine EZ h1 h2 ?_
         have: ∀(l:List Oper),BQ cur l=p::after'→p.guard=cur:=by
          intro l
          induction l with
          |nil=>intro h;simp[BQ]at h
          |cons x l ihl=>
           intro h
           unfold BQ at h
           split at h
           ·rename_i hx;simp at h;rw[←h.1];exact hx
           ·exact ihl h
         exact this _ haf
        by_cases hb:b=want
        ·subst hb
         refine ih (some (j,b)) g ρ _ a w ((p::after')++rest') hd hk hr ⟨s,hs,hv,hdst⟩ fun ρ1 a' w' k1 k2 k3 k4=> ?_
         obtain⟨c,hc1,k1⟩:=AB k1
         unfold CO at k1
         split at k1
         ·rename_i c'
          have hOk:BO n (Ck g ρ) a':=⟨k2.1,k2.2.1,fun t u ht=>by
           obtain⟨h1,h2⟩:=SL _ _ ht
           exact k2.2.2 t u (by rw[k4 t h1];exact h2)⟩
          show wpList P all.toArray Q (p::(after'++rest')) a' w'
          unfold wpList
          rw[if_pos (hpw ρ1 a' k2 (hcurE k4))]
          refine .inl ?_
          have hcond:a'.eval (.tmp s)=.bool b:=AN k2 (by simp only[Aa];rw[k4 s hdst];exact hv)
          have hyv:a'.eval y=.bool c':=AN k2 hc1
          have hrun:(execOp a'.eval p).run P w'=.ok (.value (.bool (C2 b b c'))) w':=by
           rcases GE hy with⟨e,hop⟩|⟨e,hop⟩
           ·subst e;simp[execOp,hop,hcond,hyv,asBool,C2]
           ·subst e;simp[execOp,hop,hcond,hyv,asBool,C2]
          unfold Oper.wp
          rw[hrun]
          exact fin a' w' ρ1 _ k1 hOk k3
         ·exact k1.elim
        ·obtain⟨ρ1,h1⟩:=bY m _ g ρ w.heap _ (XD g hpu) hd
         obtain⟨c,hc1,h1⟩:=AB h1
         unfold CO at h1
         split at h1
         ·rename_i c'
          refine hskip hb fun a' h2 h3=> ?_
          show wpList P all.toArray Q (p::(after'++rest')) a' w
          unfold wpList
          have hch:Fs all (Ck g ρ) cur (p::after'):=hcurE (fun t ht=>ER g ρ ht)
          rw[if_pos (hpw _ a' h2 hch)]
          refine .inl ?_
          have hcond:a'.eval (.tmp s)=.bool b:=by
           simp only[Act.eval];rw[Array.getD_eq_getD_getElem?,h3];rfl
          have hrun:(execOp a'.eval p).run P w=.ok (.value (.bool (C2 want b c'))) w:=by
           rcases GE hy with⟨e,hop⟩|⟨e,hop⟩
           ·subst e
            have:b=true:=by simpa using hb
            subst this
            simp[execOp,hop,asBool,C2,Act.eval]
            simp[Act.eval]at hcond
            simp[hcond]
           ·subst e
            have:b=false:=by simpa using hb
            subst this
            simp[execOp,hop,asBool,C2,Act.eval]
            simp[Act.eval]at hcond
            simp[hcond]
          unfold Oper.wp
          rw[hrun]
          exact fin a' w ρ1 _ h1 h2 hr
         ·exact h1.elim
       ·exact hd.elim
      ·rename_i after _ _ _
       by_cases hb:b=want
       ·subst hb
        refine ih (some (j,b)) g ((s,some (.bool b))::ρ) _ a w (after++rest') (hd.1 (by simp)) (hk.again hv) hr ⟨s,hs,(Cz hv s).trans hv,hdst⟩ fun ρ1 a' w' k1 k2 k3 k4=> ?_
        replace k4:YG g ρ ρ1:=fun t ht=>(k4 t ht).trans (Cz hv t)
        refine ih cur after ρ1 K a' w' rest' k1 k2 k3 (hcurE k4) fun ρ'' a'' w'' q1 q2 q3 q4=>hn ρ'' a'' w'' q1 q2 q3 fun t ht=> ?_
        rw[q4 t (fun x hx=>ht x (hal x hx)),k4 t (fun x hx=>ht x (hgl x hx))]
       ·have hbw:(!want)=b:=by cases b<;>cases want<;>simp at hb⊢
        have hd2:=hd.2 (by simpa using hb)
        rw[hbw]at hd2
        refine MU hs hb g [] ((s,some (.bool b))::ρ) a hok (hk.again hv) (hk.2.2 s _ hv) (fun s' hs'=>by cases hs') fun a' h2 h3=> ?_
        have he:YG g ρ (Ck g ((s,some (.bool b))::ρ)):=fun t ht=>(ER g _ ht).trans (Cz hv t)
        refine ih cur after (Ck g ((s,some (.bool b))::ρ)) K a' w rest' hd2 h2 hr (hcurE he) fun ρ'' a'' w'' q1 q2 q3 q4=>hn ρ'' a'' w'' q1 q2 q3 fun t ht=> ?_
        rw[q4 t (fun x hx=>ht x (hal x hx)),he t (fun x hx=>ht x (hgl x hx))]
     ·exact hd.elim
end
theorem Vl{l:List Nat}{ρ:Ak}{t:Nat}{v:Value}(h:get (canon l ρ) t=some v):get ρ t=some v:=by
 induction l with
 |nil=>cases h
 | cons s l ih=>
  unfold canon P3 at h
  split at h
  ·rename_i u hu
   simp only[get]at h
   split at h
   ·rename_i e;subst e;rw[hu];exact h
   ·exact ih h
  ·exact ih h
theorem BO.canon[dd:DefD]{n:Nat}{ρ:Ak}{a:Act}(hk:BO n ρ a)(l:List Nat):BO n (canon l ρ) a:=⟨hk.1,hk.2.1,fun t v h=>hk.2.2 t v (Vl h)⟩
section
variable {P:Program} {b:Frame} {k:List Item} {a:Act} {w:World} {R:Ending→World→Prop}
theorem Ch.step_[dd:DefD]{k':List Item}{a':Act}{w':World}(h: ∀cs,step P (lone (b.at a k) cs w)=.next (lone (b.at a' k') cs w'))(hT:Ch P b k' a' w' R):Ch P b k a w R:=fun cs=>
 let ⟨e,w2,fr,hr,hc,hf,hl⟩:=hT cs
 ⟨e,w2,fr,hr,Comes.of_steps (.one (h cs)) hc,hf,hl⟩
theorem Ch.of_wp[dd:DefD]{x:Code}{Q:Exit→Act→World→Prop}(h:x.wp P Q a w)(hf: ∃fn,P.funcs[b.fn]? =some fn)
  (hQ: ∀e a' w',Q e a' w'→match e with| .normal=>Ch P b k a' w' R| .panic ch=>a'.defers=DefD.ds∧R (.panicked ch) w'|_=>False):Ch P b (.code x::k) a w R:=by
 intro cs
 obtain⟨e,a',w',hq,harr⟩:=h b k cs
 have:=hQ e a' w' hq
 cases e with
 |normal=>
  obtain⟨e2,w2,fr,hr,hc,hfn,hl⟩:=this cs
  exact⟨e2,w2,fr,hr,Comes.of_steps harr hc,hfn,hl⟩
 |panic ch=>
  obtain⟨hd,hR⟩:=this
  obtain⟨todo,hs⟩:=harr
  obtain⟨fn,hfn⟩:=hf
  exact⟨.panicked ch,w',_,hR,hs,rfl,rfl,hd,fn,hfn⟩
 |exit _=>exact this.elim
 |goto _=>exact this.elim
 |ret=>exact this.elim
 |outgrown=>exact this.elim
theorem Ch.done[dd:DefD]{fn:Func}{v:Value}{m:Frame}(hb:b.kind=DefD.kd)(hd:a.defers=DefD.ds)(hf:P.funcs[b.fn]? =some fn)(hr:(results fn a.tmps).run P w=.ok v w)(hR:R (.returned v) w)
  (hs: ∀cs,step P (lone (b.at a k) cs w)=.next (lone {b.at a k with mode:=.returning} cs w)):Ch P b k a w R:=fun cs=>
 ⟨.returned v,w,_,hR,.one (hs cs),rfl,rfl,hd,hb,fn,hf,hr⟩
theorem RN{c:Code}{cs:List Frame}:step P (lone (b.at a (.code (.scope c)::k)) cs w)=.next (lone (b.at a (.code c:: .inScope c::k)) cs w):=
 step_lone_go (by simp[stepG,stepG.exec,Frame.at])
theorem NM{c:Code}{cs:List Frame}:step P (lone (b.at a (.inScope c::k)) cs w)=.next (lone (b.at a k) cs w):=
 step_lone_go (by simp[stepG,stepG.exec,Frame.at])
end
def bx(tmps:Array Value):ResultVar→Sem Value
 | .tmp t=>Pure.pure (tmps.getD t undef)
 | .cell s t=>do loadVar t (←asAddr (tmps.getD s undef))
theorem TE(fn:Func)(tmps:Array Value):results fn tmps=(do
  let vs←fn.results.mapM (bx tmps)
  Pure.pure (if h:vs.size=1 then vs[0]else .tuple vs)):=rfl
theorem S9[dd:DefD]{P:Program}{n:Nat}{ρ:Ak}{a:Act}{w:World}(hk:BO n ρ a){r:ResultVar}{v:Value}(hr:O5 P ρ w.heap r=some v):(bx a.tmps r).run P w=.ok v w:=by
 cases r with
 |tmp t=>
  have:a.tmps.getD t undef=v:=AN hk (x:=.tmp t) hr
  simp only[bx,this,Sem.run_pure]
 | cell s ty=>
  simp only[O5]at hr
  unfold qh at hr
  split at hr
  ·rename_i ad had
   unfold Ns at had
   split at had
   ·rename_i p hp
    have hpp:a.tmps.getD s undef=p:=AN hk (x:=.tmp s) hp
    have:=Cp had
    subst this
    simp only[bx,hpp,asAddr,Sem.run_bind,Sem.run_pure,Result.andThen_ok,FZ rfl hr]
   ·cases had
  ·cases hr
theorem MJ[dd:DefD]{P:Program}{n:Nat}{ρ:Ak}{a:Act}{w:World}(hk:BO n ρ a): ∀{rs:List ResultVar} {vs:List Value},Jo P ρ w.heap rs=some vs→(rs.mapM (bx a.tmps)).run P w=.ok vs w
 | [],vs,h=>by simp[Jo]at h;subst h;simp
 | r::rs,vs,h=>by
  simp only[Jo]at h
  cases hr:O5 P ρ w.heap r with
  |none=>simp[hr,Dd]at h
  | some v=>cases hl:Jo P ρ w.heap rs with
   |none=>simp[hr,hl,Dd]at h
   |some us=>
    simp[hr,hl,Dd]at h
    subst h
    simp only[List.mapM_cons,Sem.run_bind,S9 hk hr,Result.andThen_ok,MJ hk hl,Sem.run_pure]
theorem EB[dd:DefD]{P:Program}{fn:Func}{n:Nat}{ρ:Ak}{a:Act}{w:World}{vs:List Value}(hk:BO n ρ a)(h:Jo P ρ w.heap fn.results.toList=some vs):(results fn a.tmps).run P w=.ok (one vs) w:=by
 have:=MJ hk h
 rw[TE]
 simp only[Sem.run_bind]
 rw[Array.mapM_eq_mapM_toList]
 simp only[Sem.run_map,this,Result.andThen_ok,Sem.run_pure]
 congr 1
 rcases vs with _|⟨v,_|⟨u,vs⟩⟩<;>rfl
theorem Hz[dd:DefD]{c:Cx}{ρ:Ak}{b:Frame}{a:Act}{w w0:World}{k:List Item}(hf:c.P.funcs[c.f]? =some c.fn)(hb:b.fn=c.f)(hn:b.kind=DefD.kd)(hk:BO c.n ρ a)(hr:Ai w0 w)(h:TJ c ρ w.heap)
  (hs: ∀cs,step c.P (lone (b.at a k) cs w)=.next (lone {b.at a k with mode:=.returning} cs w)):Ch c.P b k a w fun e w'=>c.R e w'.heap∧Ai w0 w':=by
 obtain⟨vs,hv,hR⟩:=AB h
 exact Ch.done (m:=b) hn hk.1 (by rw[hb];exact hf) (EB hk hv) ⟨hR,hr⟩ hs
theorem EG{id:Nat}: ∀{k k':List It},Bz id k=some k'→exitTo id (k.map It.item)=some (k'.map It.item)
 | [],_,h=>by cases h
 | .blk i::k,k',h=>by
  unfold Bz at h
  simp only[List.map_cons,It.item,exitTo]
  split at h
  ·rename_i e;subst e;cases h;simp
  ·rename_i e
   rw[if_neg (by simpa using e)]
   exact EG h
 | .code x::k,k',h=>by simp only[List.map_cons,It.item,exitTo];exact EG (by simpa[Bz]using h)
 | .lp x::k,k',h=>by simp only[List.map_cons,It.item,exitTo];exact EG (by simpa[Bz]using h)
 | .sc x::k,k',h=>by simp only[List.map_cons,It.item,exitTo];exact EG (by simpa[Bz]using h)
theorem GZ.canon[dd:DefD]{c:Cx}{k:List It}{ρ:Ak}{h:AL}{l:List Nat}(hm: @GZ dd c k (canon l ρ) h ()): @GZ dd c k ρ h ():=fun hf b a w h1 h2 hk hw=>hm hf b a w h1 h2 (hk.canon l) hw
def YS[dd:DefD](c:Cx)(w0:World)(k:List It)(ρ:Ak)(h:AL):Prop:=
 c.P.funcs[c.f]? =some c.fn→ ∀(b:Frame) (a:Act) (w:World),b.fn=c.f→b.kind=DefD.kd→BO c.n ρ a→w.heap=h→Ai w0 w→Ch c.P b (k.map It.item) a w fun e w'=>c.R e w'.heap∧Ai w0 w'
theorem GZ.rest[dd:DefD]{c:Cx}{k:List It}{ρ:Ak}{h:AL}(hm: @GZ dd c k ρ h ())(w0:World):YS c w0 k ρ h:=fun hf b a w h1 h2 hk hw hr=>fun cs=>
 let ⟨e,w',fr,hR,rest⟩:=hm hf b a w h1 h2 hk hw cs
 ⟨e,w',fr,⟨hR.1,hr.trans hR.2⟩,rest⟩
theorem Au.run[dd:DefD]{c:Cx}{body:Code}{k:List It}{ρ:Ak}{h:AL}{l:List Nat}(hm: @Au dd c body k (Vm.canon l ρ) h ())(w0:World)(hf:c.P.funcs[c.f]? =some c.fn)(b:Frame)(a:Act)(w:World)(h1:b.fn=c.f)(h2:b.kind=DefD.kd)(hk:BO c.n ρ a)(hw:w.heap=h)(hr:Ai w0 w):
  Ch c.P b (.code body:: .inLoop body::k.map It.item) a w fun e w'=>c.R e w'.heap∧Ai w0 w':=fun cs=>
 let ⟨e,w',fr,hR,rest⟩:=hm hf b a w h1 h2 (hk.canon l) hw cs
 ⟨e,w',fr,⟨hR.1,hr.trans hR.2⟩,rest⟩
theorem Cq[dd:DefD](c:Cx): ∀(N:Nat) (k:List It) (ρ:Ak) (h:AL),J1 k≤N→den c k ρ h→ ∀w0,YS c w0 k ρ h:=by
 intro N
 induction N with
 | zero=>
  intro k ρ h hN hd w0 hf b a w hb hn hk hw hr
  have:k=[]:=by
   cases k with
   |nil=>rfl
   |cons x k=>
    simp only[J1]at hN
    have:0<Lw x:=by cases x<;>simp[Lw];rename_i c;cases c<;>simp[Hl]
    omega
  subst this hw
  rw[den]at hd
  exact Hz hf hb hn hk hr hd fun cs=>step_end
 | succ N ih=>
  intro k ρ h hN hd w0 hf b a w hb hn hk hw hr
  cases k with
  |nil=>
   subst hw
   rw[den]at hd
   exact Hz hf hb hn hk hr hd fun cs=>step_end
  | cons x k=>
   simp only[J1]at hN
   cases x with
   |blk id=>
    rw[den]at hd
    exact .step_ (fun cs=>step_inBlock) (ih k ρ h (by simp only[Lw]at hN;omega) hd w0 hf b a w hb hn hk hw hr)
   |sc y=>
    rw[den]at hd
    exact .step_ (fun cs=>NM) (ih k ρ h (by simp only[Lw]at hN;omega) hd w0 hf b a w hb hn hk hw hr)
   |lp y=>
    rw[den]at hd
    exact .step_ (k':=.code y:: .inLoop y::k.map It.item) (fun cs=>step_inLoop) (hd.run w0 hf b a w hb hn hk hw hr)
   | code y=>
    simp only[Lw]at hN
    cases y with
    |skip=>
     rw[den]at hd
     exact .step_ (fun cs=>step_skip) (ih k ρ h (by simp only[Hl]at hN;omega) hd w0 hf b a w hb hn hk hw hr)
    |label l=>
     rw[den]at hd
     exact .step_ (fun cs=>step_label) (ih k ρ h (by simp only[Hl]at hN;omega) hd w0 hf b a w hb hn hk hw hr)
    |ret=>
     subst hw
     rw[den]at hd
     exact Hz hf hb hn hk hr hd fun cs=>step_ret
    |seq x y=>
     rw[den]at hd
     exact .step_ (fun cs=>step_seq) (ih (.code x:: .code y::k) ρ h (by simp only[Hl,J1,Lw]at hN ⊢;omega) hd w0 hf b a w hb hn hk hw hr)
    |block id x=>
     rw[den]at hd
     exact .step_ (fun cs=>step_block) (ih (.code x:: .blk id::k) ρ h (by simp only[Hl,J1,Lw]at hN ⊢;omega) hd w0 hf b a w hb hn hk hw hr)
    |scope x=>
     rw[den]at hd
     exact .step_ (fun cs=>RN) (ih (.code x:: .sc x::k) ρ h (by simp only[Hl,J1,Lw]at hN ⊢;omega) hd w0 hf b a w hb hn hk hw hr)
    |loop x=>
     rw[den]at hd
     exact .step_ (k':=.code x:: .inLoop x::k.map It.item) (fun cs=>step_loop) (hd.run w0 hf b a w hb hn hk hw hr)
    | exit id=>
     rw[den]at hd
     split at hd
     ·rename_i k' hk'
      exact .step_ (fun cs=>step_exit (EG hk')) (ih k' ρ h (by have:=EH _ _ _ hk';simp only[Hl]at hN;omega) hd w0 hf b a w hb hn hk hw hr)
     ·exact hd.elim
    | cond x t e=>
     rw[den]at hd
     obtain⟨v,hv,hd⟩:=AB hd
     unfold Pc at hd
     split at hd
     ·rename_i q
      have hev:=AN hk hv
      refine .step_ (fun cs=>step_cond hev) ?_
      cases q with
      |true=>exact ih (.code t::k) ρ h (by simp only[Hl,J1,Lw]at hN ⊢;omega) (hd.1 rfl) w0 hf b a w hb hn hk hw hr
      |false=>exact ih (.code e::k) ρ h (by simp only[Hl,J1,Lw]at hN ⊢;omega) (hd.2 rfl) w0 hf b a w hb hn hk hw hr
     ·exact hd.elim
    | region id ops draw=>
     cases draw with
     |true=>
      rw[den]at hd
      exact hd.canon.rest w0 hf b a w hb hn hk hw hr
     | false=>
      subst hw
      rw[den]at hd
      refine .of_wp (Q:=fun e a' w'=>match e with| .normal=>Ch c.P b (k.map It.item) a' w' (fun e w'=>c.R e w'.heap∧Ai w0 w')| .panic ch=>a'.defers=DefD.ds∧(c.R (.panicked ch) w'.heap∧Ai w0 w')|_=>False) ?_ ⟨c.fn,by rw[hb];exact hf⟩ (fun e a' w' hq=>hq)
      have hop:=JQ (all:=ops.toList) (w0:=w0) (Q:=fun e a' w'=>match e with| .normal=>Ch c.P b (k.map It.item) a' w' (fun e w'=>c.R e w'.heap∧Ai w0 w')| .panic ch=>a'.defers=DefD.ds∧(c.R (.panicked ch) w'.heap∧Ai w0 w')|_=>False)
       (fun ch h a w h1 h2 h3 h4=>⟨h2.1,by rw[h3];exact h1,h4⟩) _ none ops.toList _ _ a w [] hd (hk.canon _) hr trivial
       (fun ρ' a' w' k1 k2 k3 _=>wpList_nil (ih k ρ' w'.heap (by simp only[Hl]at hN;omega) k1 w0 hf b a' w' hb hn k2 rfl k3))
      rw[List.append_nil]at hop
      have:=wp_region_lit (id:=id) (l:=ops.toList) hop
      simpa using this
    |rangeFunc _ _ _ _=>unfold den at hd;exact hd.elim
    |goto _=>unfold den at hd;exact hd.elim
    |refuse _=>unfold den at hd;exact hd.elim
def HO:Nat→List Value→Ak
 |_,[]=>[]
 |i,v::l=>(i,some v)::HO (i+1) l
theorem Lb: ∀(l:List Value) (i t:Nat) (v:Value),get (HO i l) t=some v→ ∃j,t=i+j∧l[j]? =some v
 | [],_,_,_,h=>by cases h
 | u::l,i,t,v,h=>by
  simp only[HO,get]at h
  split at h
  ·rename_i e;exact⟨0,e.symm,by simpa using h⟩
  ·obtain⟨j,h1,h2⟩:=Lb l (i+1) t v h
   exact⟨j+1,by omega,by simpa using h2⟩
@[reducible] def dd0:DefD:=⟨[],.normal⟩
theorem AY(c:Cx){code:Code}{args:List Value}{h:AL}(hf:c.P.funcs[c.f]? =some c.fn)(hb:c.fn.body=some code)(hn:c.fn.ntmps=c.n)(ha:args.length≤c.n)
  (hd: @den dd0 c [.code code] (HO 0 args) h):CallsH c.P c.f args.toArray h c.R:=by
 intro w hw cs
 let b:Frame:={(default:Frame)with fn:=c.f,kind:=.normal}
 let a:Act:={tmps:=args.toArray++Array.replicate (c.fn.ntmps - args.toArray.size) undef,defers:=[]}
 have henter:Frame.enter c.P c.f args.toArray .normal=b.at a [.code code]:=by
  simp[Frame.enter,Frame.at,hf,hb,b,a]
 have hk: @BO dd0 c.n (HO 0 args) a:=by
  refine⟨rfl,by simp[a,hn];omega,fun t v ht=> ?_⟩
  obtain⟨j,h1,h2⟩:=Lb args 0 t v ht
  have hj:j<args.length:=by
   rcases Nat.lt_or_ge j args.length with h|h
   ·exact h
   ·rw[List.getElem?_eq_none h]at h2;cases h2
  have:t=j:=by omega
  subst this
  simp only[a,Array.getElem?_append]
  rw[if_pos (by simpa using hj)]
  simpa using h2
 have:= @Cq dd0 c _ _ _ _ (Nat.le_refl _) hd w hf b a w rfl rfl hk hw (Ai.refl w) cs
 obtain⟨e,w',fr,hR,hc,hfn,hl⟩:=this
 refine⟨e,w',fr,hR, ?_,hfn,hl⟩
 rw[henter]
 exact hc
theorem Au.intro[dd:DefD]{c:Cx}{body:Code}{k:List It}{ρ:Ak}{h:AL}(hd:den c (.code body:: .lp body::k) ρ h): @Au dd c body k ρ h ():=fun hf b a w h1 h2 hk hw=>
 Cq c _ _ _ _ (Nat.le_refl _) hd w hf b a w h1 h2 hk hw (Ai.refl w)
theorem CallsH.calls{P:Program}{f:FuncId}{args:Array Value}{w:World}{R:Ending→AL→Prop}(hc:CallsH P f args w.heap R):Calls P f args w fun e w'=>R e w'.heap∧Ai w w':=hc w rfl
theorem Yb(i:Nat):HO i []=[]:=rfl
theorem Vc(i:Nat)(v:Value)(l:List Value):HO i (v::l)=(i,some v)::HO (i+1) l:=rfl
end Go.Vm
namespace Go.Vm
def mS(all:List Oper)(s j:Nat)(want:Bool)(sk:List Nat)(d:Nat)(l:List Oper)(o:Option Nat):Bool:=match o with|some s'=>if s'∈sk then Br all s j want (d::sk) l else false|none=>false
section
variable (c:Cx) (k:List It) (ρ:Ak) (h:AL)
theorem fp[dd:DefD]:den c [] ρ h=TJ c ρ h:=by rw[den]
theorem fo[dd:DefD](id:Nat):den c (.blk id::k) ρ h=den c k ρ h:=by rw[den]
theorem ls[dd:DefD](b:Code):den c (.sc b::k) ρ h=den c k ρ h:=by rw[den]
theorem lr[dd:DefD](b:Code):den c (.lp b::k) ρ h=DL (canon c.live ρ) fun ρ=> @Au dd c b k ρ h ():=by rw[den];rfl
theorem ZK[dd:DefD]:den c (.code .skip::k) ρ h=den c k ρ h:=by rw[den]
theorem V9[dd:DefD](l:Nat):den c (.code (.label l)::k) ρ h=den c k ρ h:=by rw[den]
theorem fq[dd:DefD]:den c (.code .ret::k) ρ h=TJ c ρ h:=by rw[den]
theorem fu[dd:DefD](x y:Code):den c (.code (.seq x y)::k) ρ h=den c (.code x:: .code y::k) ρ h:=by rw[den]
theorem ZG[dd:DefD](x:Operand)(t e:Code):den c (.code (.cond x t e)::k) ρ h=AZ (Aa ρ x) fun v=>Pc v (den c (.code t::k) ρ h) (den c (.code e::k) ρ h):=by rw[den]
theorem V8[dd:DefD](id:Nat)(b:Code):den c (.code (.block id b)::k) ρ h=den c (.code b:: .blk id::k) ρ h:=by rw[den]
theorem WA[dd:DefD](b:Code):den c (.code (.scope b)::k) ρ h=den c (.code b:: .sc b::k) ρ h:=by rw[den]
theorem ZJ[dd:DefD](b:Code):den c (.code (.loop b)::k) ρ h=DL (canon c.live ρ) fun ρ=> @Au dd c b k ρ h ():=by rw[den];rfl
theorem R9[dd:DefD](id:Nat)(ops:List Oper):den c (.code (.region id ops.toArray false)::k) ρ h=
  DL (canon c.live ρ) fun ρ=>BK c.P c.n ops 400 none ops ρ h (fun ρ' h'=>den c k ρ' h') fun ch h'=>c.R (.panicked ch) h':=by rw[den];rfl
theorem P9[dd:DefD](id:Nat)(ops:Array Oper):den c (.code (.region id ops true)::k) ρ h=DL (canon c.live ρ) fun ρ=> @GZ dd c (.code (.region id ops true)::k) ρ h ():=by rw[den];rfl
theorem ZH[dd:DefD](id:Nat):den c (.code (.exit id)::k) ρ h=fl c (Bz id k) ρ h:=by
 rw[den];cases Bz id k<;>rfl
end
section
variable (P:Program) (n:Nat) (all:List Oper) (m:Nat) (ρ:Ak) (h:AL) (K:Ak→AL→Prop) (X:List PanicEntry→AL→Prop)
variable (dst:Option Nat) (ty:TypeId) (pos:String) (aft:Array Edge) (gd:Option (Nat×Bool)) (rest:List Oper)
theorem R6(cur:Option (Nat×Bool)):BK P n all (m+1) cur [] ρ h K X=K ρ h:=rfl
theorem OR(op:Op):BK P n all (m+1) none (⟨dst,op,ty,pos,aft,none⟩::rest) ρ h K X=
  Am P n ⟨dst,op,ty,pos,aft,none⟩ ρ h (fun ρ' h'=>BK P n all m none rest ρ' h' K X) X:=by simp[BK]
theorem Vy(op:Op)(g:Nat×Bool):BK P n all (m+1) (some g) (⟨dst,op,ty,pos,aft,some g⟩::rest) ρ h K X=
  Am P n ⟨dst,op,ty,pos,aft,some g⟩ ρ h (fun ρ' h'=>BK P n all m (some g) rest ρ' h' K X) X:=by simp[BK]
def mU(cur:Option (Nat×Bool))(j:Nat)(want:Bool)(g after:List Oper)(s:Nat)(b:Bool):Prop:=
 Ay (Br all s j want [] g=true) (match Dy g,after with
 |true,p::after'=>match Bv want s p.op with
  |some y=>BK P n all m (some (j,want)) g ρ h (fun ρ' h'=>AZ (Aa ρ' y) fun c=>CO n p.dst want b c (Ck g ρ) fun ρ''=>BK P n all m cur after' ρ'' h' K X) X
  |none=>False
 |_,after=>KJ (b==want) (BK P n all m (some (j,want)) g ((s,some (.bool want))::ρ) h (fun ρ' h'=>BK P n all m cur after ρ' h' K X) X) (BK P n all m cur after (Ck g ((s,some (.bool (!want)))::ρ)) h K X))
def mT(cur:Option (Nat×Bool))(j:Nat)(want:Bool)(g after:List Oper)(s:Nat)(v:Value):Prop:=
 match v with| .bool b=>mU P n all m ρ h K X cur j want g after s b|_=>False
theorem WS(cur:Option (Nat×Bool))(j:Nat)(want:Bool)(g after:List Oper)(s:Nat)(b:Bool):
  mT P n all m ρ h K X cur j want g after s (.bool b)=mU P n all m ρ h K X cur j want g after s b:=rfl
theorem Lo(op:Op)(cur:Option (Nat×Bool))(j:Nat)(want:Bool)(hne: ¬some (j,want)=cur):BK P n all (m+1) cur (⟨dst,op,ty,pos,aft,some (j,want)⟩::rest) ρ h K X=
  AZ (Bq all j) fun s=>AZ (get ρ s) fun v=>mT P n all m ρ h K X cur j want
   (⟨dst,op,ty,pos,aft,some (j,want)⟩::A7 cur rest) (BQ cur rest) s v:=by
 have h1:A7 cur (⟨dst,op,ty,pos,aft,some (j,want)⟩::rest)=⟨dst,op,ty,pos,aft,some (j,want)⟩::A7 cur rest:=by simp[A7,hne]
 have h2:BQ cur (⟨dst,op,ty,pos,aft,some (j,want)⟩::rest)=BQ cur rest:=by simp[BQ,hne]
 rw[BK,if_neg hne,h1,h2]
 congr 1
theorem P6(op:Op)(j:Nat)(want:Bool):BK P n all (m+1) none (⟨dst,op,ty,pos,aft,some (j,want)⟩::rest) ρ h K X=
  AZ (Bq all j) fun s=>AZ (get ρ s) fun v=>mT P n all m ρ h K X none j want
   (⟨dst,op,ty,pos,aft,some (j,want)⟩::A7 none rest) (BQ none rest) s v:=Lo P n all m ρ h K X dst ty pos aft rest op none j want (by simp)
theorem WP(cur:Option (Nat×Bool)):A7 cur []=[]:=rfl
theorem SH(cur:Option (Nat×Bool))(op:Op):A7 cur (⟨dst,op,ty,pos,aft,gd⟩::rest)=if gd=cur then []else⟨dst,op,ty,pos,aft,gd⟩::A7 cur rest:=rfl
theorem VY(cur:Option (Nat×Bool)):BQ cur []=[]:=rfl
theorem Rh(cur:Option (Nat×Bool))(op:Op):BQ cur (⟨dst,op,ty,pos,aft,gd⟩::rest)=if gd=cur then⟨dst,op,ty,pos,aft,gd⟩::rest else BQ cur rest:=rfl
theorem Q9(op:Op):Bq (⟨dst,op,ty,pos,aft,gd⟩::rest) 0=dst:=rfl
theorem Q8(o:Oper)(j:Nat):Bq (o::rest) (j+1)=Bq rest j:=rfl
theorem XE:Dy []=true:=rfl
theorem Sv(op:Op):Dy (⟨dst,op,ty,pos,aft,gd⟩::rest)=(Bk op&&Dy rest):=rfl
theorem kC(x:Operand):Am P n ⟨dst,.move x,ty,pos,aft,gd⟩ ρ h K X=AZ (Aa ρ x) fun v=>Ac n dst v ρ fun ρ'=>K ρ' h:=rfl
theorem X5(x:Operand):Am P n ⟨dst,.assign x,ty,pos,aft,gd⟩ ρ h K X=AZ (Aa ρ x) fun v=>Ac n dst v ρ fun ρ'=>K ρ' h:=rfl
theorem kE(x a b:Operand):Am P n ⟨dst,.pick x a b,ty,pos,aft,gd⟩ ρ h K X=AZ (Aa ρ x) fun v=>Pc v (AZ (Aa ρ a) fun u=>Ac n dst u ρ fun ρ'=>K ρ' h) (AZ (Aa ρ b) fun u=>Ac n dst u ρ fun ρ'=>K ρ' h):=rfl
theorem dK(e:TypeId):Am P n ⟨dst,.alloc e,ty,pos,aft,gd⟩ ρ h K X=AZ (JA P e) fun z=>Ac n dst (.pointer (some ⟨h.size,0,none⟩)) ρ fun ρ'=>K ρ' (h.push (.cells z.cells e)):=rfl
theorem oD(e:TypeId)(x:Operand):Am P n ⟨dst,.box e x,ty,pos,aft,gd⟩ ρ h K X=AZ (Aa ρ x) fun v=>Ac n dst (.pointer (some ⟨h.size,0,none⟩)) ρ fun ρ'=>K ρ' (h.push (.cells v.cells e)):=rfl
theorem dM(t:TypeId)(ps:List (Nat×Operand)):Am P n ⟨dst,.build t ps.toArray,ty,pos,aft,gd⟩ ρ h K X=AZ (AE ρ ps) fun vs=>AZ (Yx P t vs) fun v=>Ac n dst v ρ fun ρ'=>K ρ' h:=rfl
theorem NK(t:TypeId)(l:Nat)(ps:List (Nat×Operand)):Am P n ⟨dst,.buildSlice t l ps.toArray,ty,pos,aft,gd⟩ ρ h K X=AZ (AE ρ ps) fun vs=>AZ (BP P t l vs) fun r=>Ac n dst (.slice (some ⟨h.size,0,none⟩) l l) ρ fun ρ'=>K ρ' (h.push (.cells r.2 r.1)):=rfl
theorem kB(t:TypeId)(x:Operand):Am P n ⟨dst,.load t x,ty,pos,aft,gd⟩ ρ h K X=AZ (Aa ρ x) fun p=>AZ (Co p) fun a=>AZ (Jm P h t a) fun v=>Ac n dst v ρ fun ρ'=>K ρ' h:=rfl
theorem dV(t:TypeId)(x y:Operand):Am P n ⟨dst,.store t x y,ty,pos,aft,gd⟩ ρ h K X=AZ (Aa ρ x) fun p=>AZ (Co p) fun a=>AZ (Aa ρ y) fun v=>AZ (J4 P t) fun s=>Ay (v.cells.size=s.2) (AZ (GX h a v.cells.toList) fun h'=>Ac n dst undef ρ fun ρ'=>K ρ' h'):=rfl
theorem RL(x:Operand):Am P n ⟨dst,.nilCheck x,ty,pos,aft,gd⟩ ρ h K X=AZ (Aa ρ x) fun p=>AZ (Co p) fun _=>Ac n dst p ρ fun ρ'=>K ρ' h:=rfl
theorem dL(op:BinOp)(t:TypeId)(x y:Operand)(t':TypeId):Am P n ⟨dst,.binOp op t x y t',ty,pos,aft,gd⟩ ρ h K X=AZ (Aa ρ x) fun a=>AZ (Aa ρ y) fun b=>Bg P op t a b fun v=>Ac n dst v ρ fun ρ'=>K ρ' h:=rfl
theorem kF(op:UnOp)(t:TypeId)(x:Operand):Am P n ⟨dst,.unOp op t x,ty,pos,aft,gd⟩ ρ h K X=AZ (Aa ρ x) fun v=>AZ (pM op v) fun u=>Ac n dst u ρ fun ρ'=>K ρ' h:=rfl
theorem Tn(s d:TypeId)(x:Operand):Am P n ⟨dst,.convert s d x,ty,pos,aft,gd⟩ ρ h K X=AZ (Aa ρ x) fun v=>P1 P s d v h fun u h'=>Ac n dst u ρ fun ρ'=>K ρ' h':=rfl
theorem KU(t:TypeId)(x:Operand):Am P n ⟨dst,.makeInterface t x,ty,pos,aft,gd⟩ ρ h K X=AZ (Aa ρ x) fun v=>Ay (P.concrete t=true) (Ac n dst (.iface t v) ρ fun ρ'=>K ρ' h):=rfl
theorem RK(fn:Fn)(fs cs:List Operand):Am P n ⟨dst,.makeFunc fn fs.toArray cs.toArray,ty,pos,aft,gd⟩ ρ h K X=AZ (GD ρ fs) fun us=>AZ (GD ρ cs) fun vs=>Ac n dst (.func fn us.toArray vs.toArray) ρ fun ρ'=>K ρ' h:=rfl
theorem Tp(t:TypeId):Am P n ⟨dst,.makeMap t none,ty,pos,aft,gd⟩ ρ h K X=Ac n dst (.map (some h.size)) ρ fun ρ'=>K ρ' (h.push (.map #[] 0)):=rfl
theorem PL(t:TypeId)(l c:Operand):Am P n ⟨dst,.makeSlice t l c,ty,pos,aft,gd⟩ ρ h K X=AZ (Aa ρ l) fun lv=>AZ (Aa ρ c) fun cv=>CJ P (Instr.makeSlice t lv cv) h fun v h'=>Ac n dst v ρ fun ρ'=>K ρ' h':=rfl
theorem dU(t:TypeId)(x:Operand)(lo hi:Option Operand):Am P n ⟨dst,.slice t x lo hi none,ty,pos,aft,gd⟩ ρ h K X=AZ (Aa ρ x) fun v=>AZ (ET ρ lo) fun l=>AZ (ET ρ hi) fun r=>co P t v l r fun u=>Ac n dst u ρ fun ρ'=>K ρ' h:=rfl
theorem PJ(t:TypeId)(x:Operand)(i:Nat):Am P n ⟨dst,.fieldAddr t x i,ty,pos,aft,gd⟩ ρ h K X=AZ (Aa ρ x) fun p=>AZ (Co p) fun a=>AZ (iG P t i) fun f=>Ay (f.2.2≠0) (Ac n dst (.pointer (some (a.add f.1))) ρ fun ρ'=>K ρ' h):=rfl
theorem dO(t:TypeId)(x:Operand)(i:Nat):Am P n ⟨dst,.field t x i,ty,pos,aft,gd⟩ ρ h K X=AZ (Aa ρ x) fun v=>AZ (Zv P t i v) fun u=>Ac n dst u ρ fun ρ'=>K ρ' h:=rfl
theorem PK(t:TypeId)(x i:Operand):Am P n ⟨dst,.indexAddr t x i,ty,pos,aft,gd⟩ ρ h K X=AZ (Aa ρ x) fun v=>AZ (Aa ρ i) fun j=>Ku P t v j fun u=>Ac n dst u ρ fun ρ'=>K ρ' h:=rfl
theorem dR(t:TypeId)(x i:Operand):Am P n ⟨dst,.index t x i,ty,pos,aft,gd⟩ ρ h K X=AZ (Aa ρ x) fun v=>AZ (Aa ρ i) fun j=>M3 P t v j fun u=>Ac n dst u ρ fun ρ'=>K ρ' h:=rfl
theorem X8(t:TypeId)(x i:Operand)(ok:Bool):Am P n ⟨dst,.lookup t x i ok,ty,pos,aft,gd⟩ ρ h K X=AZ (Aa ρ x) fun v=>AZ (Aa ρ i) fun k=>CJ P (Instr.lookup t v k ok) h fun u h'=>Ac n dst u ρ fun ρ'=>K ρ' h':=rfl
theorem PM(t:TypeId)(x i y:Operand):Am P n ⟨dst,.mapUpdate t x i y,ty,pos,aft,gd⟩ ρ h K X=AZ (Aa ρ x) fun m=>AZ (Aa ρ i) fun k=>AZ (Aa ρ y) fun v=>CJ P (do Instr.mapUpdate t m k v;Pure.pure undef) h fun u h'=>Ac n dst u ρ fun ρ'=>K ρ' h':=rfl
theorem X7(t:TypeId)(x i y:Operand):Am P n ⟨dst,.insert t x i y,ty,pos,aft,gd⟩ ρ h K X=AZ (Aa ρ x) fun m=>AZ (Aa ρ i) fun k=>AZ (Aa ρ y) fun v=>CJ P (do Instr.mapUpdate t m k v;Pure.pure undef) h fun u h'=>Ac n dst u ρ fun ρ'=>K ρ' h':=rfl
theorem dT(t:TypeId)(x:Operand):Am P n ⟨dst,.range t x,ty,pos,aft,gd⟩ ρ h K X=AZ (Aa ρ x) fun v=>CJ P (Instr.range t v) h fun u h'=>Ac n dst u ρ fun ρ'=>K ρ' h':=rfl
theorem kD(x:Operand)(s:Bool):Am P n ⟨dst,.next x s,ty,pos,aft,gd⟩ ρ h K X=AZ (Aa ρ x) fun v=>CJ P (Instr.next v s ty) h fun u h'=>Ac n dst u ρ fun ρ'=>K ρ' h':=rfl
theorem NL(x:Operand)(t a:TypeId)(ok:Bool):Am P n ⟨dst,.typeAssert x t a ok,ty,pos,aft,gd⟩ ρ h K X=AZ (Aa ρ x) fun v=>CJ P (Instr.typeAssert v t a ok) h fun u h'=>Ac n dst u ρ fun ρ'=>K ρ' h':=rfl
def pH(v:Value)(i:Nat)(K:Value→Prop):Prop:=match v with| .tuple vs=>AZ vs[i]? K|_=>False
theorem Zk(v:Value)(l:List Value)(K:Value→Prop):pH (.tuple (List.toArray (v::l))) 0 K=K v:=rfl
theorem Zj(v:Value)(l:List Value)(i:Nat)(K:Value→Prop):pH (.tuple (List.toArray (v::l))) (i+1) K=pH (.tuple l.toArray) i K:=by simp[pH]
theorem To(x:Operand)(i:Nat):Am P n ⟨dst,.extract x i,ty,pos,aft,gd⟩ ρ h K X=AZ (Aa ρ x) fun v=>pH v i fun u=>Ac n dst u ρ fun ρ'=>K ρ' h:=by
 unfold Am HY pH;rfl
theorem oF(x:Operand)(t:TypeId):Am P n ⟨dst,.call ⟨.builtin .len,#[x],#[t]⟩,ty,pos,aft,gd⟩ ρ h K X=AZ (Aa ρ x) fun v=>G4 P t v h fun u=>Ac n dst u ρ fun ρ'=>K ρ' h:=by
 unfold Am HY
 simp only[GD]
 cases Aa ρ x<;>simp[AZ,Dd]
theorem X4(xs:List Operand)(ts:Array TypeId):Am P n ⟨dst,.call ⟨.builtin .append,xs.toArray,ts⟩,ty,pos,aft,gd⟩ ρ h K X=AZ (GD ρ xs) fun vs=>CJ P (Builtin.append_ ts ty vs.toArray) h fun v h'=>Ac n dst v ρ fun ρ'=>K ρ' h':=rfl
theorem oE(xs:List Operand)(ts:Array TypeId):Am P n ⟨dst,.call ⟨.builtin .cap,xs.toArray,ts⟩,ty,pos,aft,gd⟩ ρ h K X=AZ (GD ρ xs) fun vs=>CJ P (Builtin.cap_ ts ty vs.toArray) h fun v h'=>Ac n dst v ρ fun ρ'=>K ρ' h':=rfl
theorem kA(xs:List Operand)(ts:Array TypeId):Am P n ⟨dst,.call ⟨.builtin .copy,xs.toArray,ts⟩,ty,pos,aft,gd⟩ ρ h K X=AZ (GD ρ xs) fun vs=>CJ P (Builtin.copy_ ts ty vs.toArray) h fun v h'=>Ac n dst v ρ fun ρ'=>K ρ' h':=rfl
theorem X6(xs:List Operand)(ts:Array TypeId):Am P n ⟨dst,.call ⟨.builtin .delete,xs.toArray,ts⟩,ty,pos,aft,gd⟩ ρ h K X=AZ (GD ρ xs) fun vs=>CJ P (Builtin.delete_ ts ty vs.toArray) h fun v h'=>Ac n dst v ρ fun ρ'=>K ρ' h':=rfl
theorem j9(f:Operand)(xs:List Operand)(ts:Array TypeId):Am P n ⟨dst,.call ⟨.value f,xs.toArray,ts⟩,ty,pos,aft,gd⟩ ρ h K X=AZ (Aa ρ f) fun fv=>AZ (GD ρ xs) fun vs=>Pq P fv vs h (@eY n dst ρ K X ()):=rfl
def nF(v:Value)(X:List PanicEntry→Prop):Prop:=match v with| .iface t u=>X [{v:=.iface t u,recovered:=false}]|_=>False
theorem Sq(t:TypeId)(u:Value)(X:List PanicEntry→Prop):nF (.iface t u) X=X [{v:=.iface t u,recovered:=false}]:=rfl
theorem dS(x:Operand):Am P n ⟨dst,.panic x,ty,pos,aft,gd⟩ ρ h K X=AZ (Aa ρ x) fun v=>nF v fun ch=>X ch h:=by
 unfold Am nF;rfl
theorem XP(d:Nat)(v:Value)(k:Ak→Prop):Ac n (some d) v ρ k=Ay (d<n) (k ((d,some v)::ρ)):=rfl
theorem XO(v:Value)(k:Ak→Prop):Ac n none v ρ k=k ρ:=rfl
theorem YV(v:Value): @eY n dst ρ K X () (.returned v) h=Ac n dst v ρ fun ρ'=>K ρ' h:=rfl
theorem YU(ch:List PanicEntry): @eY n dst ρ K X () (.panicked ch) h=X ch h:=rfl
theorem SP(want b c:Bool)(k:Ak→Prop):CO n dst want b (.bool c) ρ k=Ac n dst (.bool (C2 want b c)) ρ k:=rfl
theorem SO(b c:Bool):C2 true b c=(b&&c):=rfl
theorem QU(b c:Bool):C2 false b c=(b||c):=rfl
theorem Rs(g:FuncId)(fs vs cs:List Value)(Q:Ending→AL→Prop):Pq P (.func (.func g) fs.toArray cs.toArray) vs h Q=if BR P g=true then Ap P g (fs++vs++cs).toArray h Q else YR P g (fs++vs++cs).toArray h Q:=by
 simp[Pq]
theorem iU(t:Nat):get [] t=none:=rfl
theorem AO(s:Nat)(v:Option Value)(t:Nat):get ((s,v)::ρ) t=if s=t then v else get ρ t:=rfl
theorem Vn:canon [] ρ=[]:=rfl
theorem Rt(s:Nat)(l:List Nat):canon (s::l) ρ=P3 s (get ρ s) (canon l ρ):=rfl
theorem R3(s:Nat)(v:Value):P3 s (some v) ρ=(s,some v)::ρ:=rfl
theorem R2(s:Nat):P3 s none ρ=ρ:=rfl
theorem gK(t:Nat):Aa ρ (.tmp t)=get ρ t:=rfl
theorem WJ(v:Value):Aa ρ (.const v)=some v:=rfl
theorem SB(g:Nat):Aa ρ (.global g)=some (.pointer (some ⟨g,0,none⟩)):=rfl
theorem ZW(f:Nat):Aa ρ (.func f)=some (.func (.func f) (List.toArray []) (List.toArray [])):=rfl
theorem gJ:GD ρ []=some []:=rfl
theorem ZV(x:Operand)(l:List Operand):GD ρ (x::l)=Dd (Aa ρ x) (GD ρ l):=rfl
theorem R1(v:Value)(l:List Value):Dd (some v) (some l)=some (v::l):=rfl
theorem gL:AE ρ []=some []:=rfl
theorem ZX(i:Nat)(x:Operand)(l:List (Nat×Operand)):AE ρ ((i,x)::l)=NX i (Aa ρ x) (AE ρ l):=rfl
theorem R4(i:Nat)(v:Value)(l:List (Nat×Value)):NX i (some v) (some l)=some ((i,v)::l):=rfl
theorem Wp:ET ρ none=some none:=rfl
theorem Wq(x:Operand):ET ρ (some x)=(Aa ρ x).map some:=rfl
theorem jh(c:Cx):TJ c ρ h=AZ (Jo c.P ρ h c.fn.results.toList) fun vs=>c.R (.returned (one vs)) h:=rfl
theorem bu:Jo P ρ h []=some []:=rfl
theorem XU(r:ResultVar)(l:List ResultVar):Jo P ρ h (r::l)=Dd (O5 P ρ h r) (Jo P ρ h l):=rfl
theorem bw(t:Nat):O5 P ρ h (.tmp t)=get ρ t:=rfl
theorem XW(s:Nat)(t:TypeId):O5 P ρ h (.cell s t)=qh P h t (Ns (get ρ s)):=rfl
theorem Sj(p:Value):Ns (some p)=Co p:=rfl
theorem bC(t:TypeId)(a:Addr):qh P h t (some a)=Jm P h t a:=rfl
theorem jM(v:Value):one [v]=v:=rfl
theorem jN(v u:Value):one [v,u]=.tuple #[v,u]:=rfl
theorem Wk(v u x:Value):one [v,u,x]=.tuple #[v,u,x]:=rfl
theorem bF(v u x y:Value):one [v,u,x,y]=.tuple #[v,u,x,y]:=rfl
theorem Pi(a:Addr):Co (.pointer (some a))=some a:=rfl
theorem Eb(b o i:Nat):(⟨b,o,none⟩:Addr).add i=⟨b,o+i,none⟩:=by
 unfold Addr.add;split
 ·rename_i h;subst h;rfl
 ·rfl
end
section
variable (P:Program) (t:TypeId) (k:IntKind) (a b:Int) (x y:ByteArray) (K:Value→Prop)
theorem e8:Bg P .add t (.int k a) (.int k b) K=K (.int k (k.wrap (a+b))):=by simp[Bg,Ay]
theorem fR:Bg P .sub t (.int k a) (.int k b) K=K (.int k (k.wrap (a - b))):=by simp[Bg,Ay]
theorem fK:Bg P .mul t (.int k a) (.int k b) K=K (.int k (k.wrap (a*b))):=by simp[Bg,Ay]
theorem fN:Bg P .quo t (.int k a) (.int k b) K=Ay (b≠0) (K (.int k (k.wrap (a.tdiv b)))):=by simp[Bg,Ay]
theorem fO:Bg P .rem t (.int k a) (.int k b) K=Ay (b≠0) (K (.int k (a.tmod b))):=by simp[Bg,Ay]
theorem fC:Bg P .eql t (.int k a) (.int k b) K=K (.bool (a==b)):=by simp[Bg,Ay]
theorem fL:Bg P .neq t (.int k a) (.int k b) K=K (.bool (a !=b)):=by simp[Bg,Ay]
theorem fJ:Bg P .lss t (.int k a) (.int k b) K=K (.bool (decide (a<b))):=by simp[Bg,Ay]
theorem fH:Bg P .leq t (.int k a) (.int k b) K=K (.bool (decide (a≤b))):=by simp[Bg,Ay]
theorem fG:Bg P .gtr t (.int k a) (.int k b) K=K (.bool (decide (b<a))):=by simp[Bg,Ay]
theorem fD:Bg P .geq t (.int k a) (.int k b) K=K (.bool (decide (b≤a))):=by simp[Bg,Ay]
theorem e9:Bg P .and t (.int k a) (.int k b) K=K (.int k (k.wrap (BitVec.ofInt k.bits a &&& BitVec.ofInt k.bits b).toNat)):=by simp[Bg,Ay]
theorem lU:Bg P .or t (.int k a) (.int k b) K=K (.int k (k.wrap (BitVec.ofInt k.bits a ||| BitVec.ofInt k.bits b).toNat)):=by simp[Bg,Ay]
theorem fP(k':IntKind):Bg P .shl t (.int k a) (.int k' b) K=Ay (0≤b) (K (.int k (k.wrap (a*2 ^ (min b.toNat k.bits))))):=rfl
theorem fQ(k':IntKind):Bg P .shr t (.int k a) (.int k' b) K=Ay (0≤b) (K (.int k (a.fdiv (2 ^ (min b.toNat k.bits))))):=rfl
theorem Yo:Bg P .add t (.string x) (.string y) K=Ay (x.size+y.size≤9223372036854775807) (K (.string (x++y))):=rfl
theorem Yp:Bg P .eql t (.string x) (.string y) K=K (.bool (x.toList==y.toList)):=rfl
theorem Yu:Bg P .neq t (.string x) (.string y) K=K (.bool (!(x.toList==y.toList))):=rfl
theorem Yt:Bg P .lss t (.string x) (.string y) K=K (.bool (Op.bytesLess x.toList y.toList)):=rfl
theorem Ys:Bg P .leq t (.string x) (.string y) K=K (.bool (Op.bytesLess x.toList y.toList||x.toList==y.toList)):=rfl
theorem Yr:Bg P .gtr t (.string x) (.string y) K=K (.bool (!(Op.bytesLess x.toList y.toList||x.toList==y.toList))):=rfl
theorem Yq:Bg P .geq t (.string x) (.string y) K=K (.bool (!(Op.bytesLess x.toList y.toList))):=rfl
end
section
variable (P:Program) (t:TypeId) (K:Value→Prop)
theorem Yi(a b:Bool):Bg P .eql t (.bool a) (.bool b) K=AZ (JC P 10000 t (.bool a) (.bool b)) fun b=>K (.bool (b)):=by
 show Ay (Dn P t (.bool a) (.bool b)=true) _=_
 rw[show(Dn P t (.bool a) (.bool b)=true)=True from eq_true rfl,DG]
theorem Yj(a b:Bool):Bg P .neq t (.bool a) (.bool b) K=AZ (JC P 10000 t (.bool a) (.bool b)) fun b=>K (.bool (!b)):=by
 show Ay (Dn P t (.bool a) (.bool b)=true) _=_
 rw[show(Dn P t (.bool a) (.bool b)=true)=True from eq_true rfl,DG]
theorem Ym(p q:Option Addr):Bg P .eql t (.pointer p) (.pointer q) K=AZ (JC P 10000 t (.pointer p) (.pointer q)) fun b=>K (.bool (b)):=by
 show Ay (Dn P t (.pointer p) (.pointer q)=true) _=_
 rw[show(Dn P t (.pointer p) (.pointer q)=true)=True from eq_true rfl,DG]
theorem Yn(p q:Option Addr):Bg P .neq t (.pointer p) (.pointer q) K=AZ (JC P 10000 t (.pointer p) (.pointer q)) fun b=>K (.bool (!b)):=by
 show Ay (Dn P t (.pointer p) (.pointer q)=true) _=_
 rw[show(Dn P t (.pointer p) (.pointer q)=true)=True from eq_true rfl,DG]
theorem Ve(p q:Option Addr)(n m n' m':Nat):Bg P .eql t (.slice p n m) (.slice q n' m') K=AZ (JC P 10000 t (.slice p n m) (.slice q n' m')) fun b=>K (.bool (b)):=by
 show Ay (Dn P t (.slice p n m) (.slice q n' m')=true) _=_
 rw[show(Dn P t (.slice p n m) (.slice q n' m')=true)=True from eq_true rfl,DG]
theorem Vf(p q:Option Addr)(n m n' m':Nat):Bg P .neq t (.slice p n m) (.slice q n' m') K=AZ (JC P 10000 t (.slice p n m) (.slice q n' m')) fun b=>K (.bool (!b)):=by
 show Ay (Dn P t (.slice p n m) (.slice q n' m')=true) _=_
 rw[show(Dn P t (.slice p n m) (.slice q n' m')=true)=True from eq_true rfl,DG]
theorem Yk(p q:Option Nat):Bg P .eql t (.map p) (.map q) K=AZ (JC P 10000 t (.map p) (.map q)) fun b=>K (.bool (b)):=by
 show Ay (Dn P t (.map p) (.map q)=true) _=_
 rw[show(Dn P t (.map p) (.map q)=true)=True from eq_true rfl,DG]
theorem Yl(p q:Option Nat):Bg P .neq t (.map p) (.map q) K=AZ (JC P 10000 t (.map p) (.map q)) fun b=>K (.bool (!b)):=by
 show Ay (Dn P t (.map p) (.map q)=true) _=_
 rw[show(Dn P t (.map p) (.map q)=true)=True from eq_true rfl,DG]
theorem Yg(xs ys:Array Value):Bg P .eql t (.agg xs) (.agg ys) K=Ay (P.eqGuardType P.depth t=false) (AZ (JC P 10000 t (.agg xs) (.agg ys)) fun b=>K (.bool (b))):=by
 show Ay (Dn P t (.agg xs) (.agg ys)=true) _=_
 rw[show(Dn P t (.agg xs) (.agg ys)=true)=(P.eqGuardType P.depth t=false) from by simp[Dn]]
theorem Yh(xs ys:Array Value):Bg P .neq t (.agg xs) (.agg ys) K=Ay (P.eqGuardType P.depth t=false) (AZ (JC P 10000 t (.agg xs) (.agg ys)) fun b=>K (.bool (!b))):=by
 show Ay (Dn P t (.agg xs) (.agg ys)=true) _=_
 rw[show(Dn P t (.agg xs) (.agg ys)=true)=(P.eqGuardType P.depth t=false) from by simp[Dn]]
end
section
variable (P:Program) (t:TypeId) (d:Nat) (a b:Int) (k:IntKind)
def RZ(P:Program)(d:Nat)(t:TypeId)(u:Option TypeDesc)(x y:Value):Option Bool:=
 match u,x,y with
  |some .bool,.bool a,.bool b=>some (a==b)
  |some (.int _),.int k a,.int k' b=>if k=k' then some (a==b)else none
  |some .string,.string a,.string b=>some (a.toList==b.toList)
  |some (.pointer _),.pointer none,.pointer b=>some b.isNone
  |some (.pointer _),.pointer (some _),.pointer none=>some false
  |some (.pointer te),.pointer (some a),.pointer (some b)=>if a=b∧(P.info? te).isSome=true then some true else none
  |some (.slice _),.slice none _ _,.slice b _ _=>some b.isNone
  |some (.slice _),.slice (some _) _ _,.slice none _ _=>some false
  |some (.map _ _),.map none,.map b=>some b.isNone
  |some (.map _ _),.map (some _),.map none=>some false
  |some (.struct fs),.agg xs,.agg ys=>eqT P d xs ys fs.toList (P.stoodInHeld t)
  |some (.array len te),.agg xs,.agg ys=>lu P (JC P d) te len xs ys (P.info? te)
  |_,_,_=>none
where
 eqT (P:Program) (d:Nat) (xs ys:Array Value) (fs:List Field) (b:Bool):Option Bool:=if b then none else WE P (JC P d) xs ys fs
theorem lw(x y:Value):JC P (d+1) t x y=RZ P d t (P.underlying t) x y:=rfl
theorem ZR(x y:Bool):RZ P d t (some .bool) (.bool x) (.bool y)=some (x==y):=rfl
theorem gA(k':IntKind):RZ P d t (some (.int k')) (.int k a) (.int k b)=some (a==b):=by simp[RZ]
theorem gH(x y:ByteArray):RZ P d t (some .string) (.string x) (.string y)=some (x.toList==y.toList):=rfl
theorem ZT(e:TypeId)(q:Option Addr):RZ P d t (some (.pointer e)) (.pointer none) (.pointer q)=some q.isNone:=rfl
theorem gF(e:TypeId)(q:Option Addr):RZ P d t (some (.pointer e)) (.pointer q) (.pointer none)=some q.isNone:=by cases q<;>rfl
theorem SA(e:TypeId)(a:Addr)(h:(P.info? e).isSome=true):RZ P d t (some (.pointer e)) (.pointer (some a)) (.pointer (some a))=some true:=by simp[RZ,h]
theorem ZU(e:TypeId)(q:Option Addr)(n m n' m':Nat):RZ P d t (some (.slice e)) (.slice none n m) (.slice q n' m')=some q.isNone:=rfl
theorem gG(e:TypeId)(q:Option Addr)(n m n' m':Nat):RZ P d t (some (.slice e)) (.slice q n m) (.slice none n' m')=some q.isNone:=by cases q<;>rfl
theorem ZS(e e':TypeId)(q:Option Nat):RZ P d t (some (.map e e')) (.map none) (.map q)=some q.isNone:=rfl
theorem gD(e e':TypeId)(q:Option Nat):RZ P d t (some (.map e e')) (.map q) (.map none)=some q.isNone:=by cases q<;>rfl
theorem fz(fs:List Field)(xs ys:Array Value):RZ P d t (some (.struct fs.toArray)) (.agg xs) (.agg ys)=RZ.eqT P d xs ys fs (P.stoodInHeld t):=rfl
theorem WG(fs:List Field)(xs ys:Array Value):RZ.eqT P d xs ys fs false=WE P (JC P d) xs ys fs:=rfl
theorem fy(eq:TypeId→Value→Value→Option Bool)(xs ys:Array Value):WE P eq xs ys []=some true:=rfl
theorem ZP(eq:TypeId→Value→Value→Option Bool)(xs ys:Array Value)(nm:String)(ft:TypeId)(off:Nat)(em:Bool)(tag pkg:String)(bo:Nat)(l:List Field):
  WE P eq xs ys (⟨nm,ft,off,em,tag,pkg,bo⟩::l)=if nm= "_" then WE P eq xs ys l else JL (eJ eq ft (FV P ft xs off) (FV P ft ys off)) (WE P eq xs ys l):=rfl
theorem ZQ(eq:TypeId→Value→Value→Option Bool)(x y:Value):eJ eq t (some x) (some y)=eq t x y:=rfl
theorem Vb(x y:Bool):JL (some x) (some y)=some (x&&y):=rfl
def bM(s:Option (Bool×Nat))(cs:Array Value)(off:Nat):Option Value:=match s with
 |some (true,n)=>some (.agg (cs.extract off (off+n)))
 |some (false,_)=>cs[off]?
 |none=>none
theorem bN(cs:Array Value)(off:Nat):FV P t cs off=bM (J4 P t) cs off:=rfl
theorem Wr(cs:Array Value)(off n:Nat):bM (some (true,n)) cs off=some (.agg (cs.extract off (off+n))):=rfl
theorem Ws(cs:Array Value)(off n:Nat):bM (some (false,n)) cs off=cs[off]? :=rfl
theorem kO:pM .neg (.int k a)=some (.int k (k.wrap (0 - a))):=rfl
theorem kP(x:Bool):pM .not (.bool x)=some (.bool (!x)):=rfl
def Py(P:Program)(s d:TypeId)(us ud:Option TypeDesc)(x:Value)(h:AL)(K:Value→AL→Prop):Prop:=
 match us,ud with
 |some _,some (.int k)=>match x with
  | .int _ n=>K (.int k (k.wrap n)) h
  |_=>False
 |some (.int _),some .string=>match x with
  | .int _ n=>K (.string (Utf8.encode n)) h
  |_=>False
 |some .string,some .string=>match x with
  | .string b=>K (.string b) h
  |_=>False
 |_,_=>CJ P (convert s d x) h K
@[congr] theorem cnvS_congr {P:Program} {s d:TypeId} {us us' ud ud':Option TypeDesc} {x:Value} {h:AL} {K:Value→AL→Prop} (h1:us=us') (h2:ud=ud'):Py P s d us ud x h K=Py P s d us' ud' x h K:=by rw[h1,h2]
theorem fZ(s dd:TypeId)(x:Value)(h:AL)(K:Value→AL→Prop):P1 P s dd x h K=Py P s dd (P.underlying s) (P.underlying dd) x h K:=rfl
theorem Pz(s dd:TypeId)(k':IntKind)(ds:TypeDesc)(h:AL)(K:Value→AL→Prop):Py P s dd (some ds) (some (.int k)) (.int k' a) h K=K (.int k (k.wrap a)) h:=by cases ds<;>rfl
theorem NW(s dd:TypeId)(k':IntKind)(h:AL)(K:Value→AL→Prop):Py P s dd (some (.int k)) (some .string) (.int k' a) h K=K (.string (Utf8.encode a)) h:=rfl
theorem P0(s dd:TypeId)(x:ByteArray)(h:AL)(K:Value→AL→Prop):Py P s dd (some .string) (some .string) (.string x) h K=K (.string x) h:=rfl
theorem Lj(s dd e:TypeId)(x:Value)(h:AL)(K:Value→AL→Prop):Py P s dd (some .string) (some (.slice e)) x h K=CJ P (convert s dd x) h K:=rfl
theorem JP(s dd e:TypeId)(x:Value)(h:AL)(K:Value→AL→Prop):Py P s dd (some (.slice e)) (some .string) x h K=CJ P (convert s dd x) h K:=rfl
def WY(u:Option TypeDesc)(x:ByteArray)(K:Value→Prop):Prop:=Ay (u=some .string) (K (.int .i64 x.size))
@[congr] theorem lenS_congr {u u':Option TypeDesc} {x:ByteArray} {K:Value→Prop} (h1:u=u'):WY u x K=WY u' x K:=by rw[h1]
theorem ix(x:ByteArray)(h:AL)(K:Value→Prop):G4 P t (.string x) h K=WY (P.underlying t) x K:=rfl
theorem Qa(x:ByteArray)(K:Value→Prop):WY (some .string) x K=K (.int .i64 x.size):=by simp[WY,Ay]
theorem iu(p:Option Addr)(n m:Nat)(h:AL)(K:Value→Prop):G4 P t (.slice p n m) h K=AZ (MW P t) fun _=>K (.int .i64 n):=rfl
def QY(u:Option TypeDesc)(o:Option Obj)(K:Value→Prop):Prop:=match u,o with|some (.map _ _),some (.map es _)=>K (.int .i64 es.size)|_,_=>False
@[congr] theorem lenM_congr {u u':Option TypeDesc} {o o':Option Obj} {K:Value→Prop} (h1:u=u') (h2:o=o'):QY u o K=QY u' o' K:=by rw[h1,h2]
theorem UW(r:Nat)(h:AL)(K:Value→Prop):G4 P t (.map (some r)) h K=QY (P.underlying t) h[r]? K:=rfl
theorem QZ(x y:TypeId)(es:Array MapEntry)(cl:Nat)(K:Value→Prop):QY (some (.map x y)) (some (.map es cl)) K=K (.int .i64 es.size):=rfl
def aG(u:Option TypeDesc)(x:ByteArray)(n:Int)(K:Value→Prop):Prop:=Ay (u=some .string∧0≤n) (AZ x.data[n.toNat]? fun b=>K (.int .u8 b.toNat))
@[congr] theorem idxS_congr {u u':Option TypeDesc} {x:ByteArray} {n:Int} {K:Value→Prop} (h1:u=u'):aG u x n K=aG u' x n K:=by rw[h1]
theorem ik(x:ByteArray)(K:Value→Prop):M3 P t (.string x) (.int k a) K=aG (P.underlying t) x a K:=rfl
theorem QP(x:ByteArray)(K:Value→Prop):aG (some .string) x a K=Ay (0≤a) (AZ x.data[a.toNat]? fun b=>K (.int .u8 b.toNat)):=by simp[aG]
theorem ip(p:Addr)(n m:Nat)(K:Value→Prop):Ku P t (.slice (some p) n m) (.int k a) K=AZ (MW P t) fun e=>Ay (0≤a∧a<n) (K (.pointer (some (p.add (a.toNat*e.2.1))))):=rfl
theorem Pm(n:Nat):B6 none n=some (n:Int):=rfl
theorem Pn(n:Nat):B6 (some (.int k a)) n=some a:=rfl
def rK(u:Option TypeDesc)(x:ByteArray)(l r:Int)(K:Value→Prop):Prop:=Ay (u=some .string∧0≤l∧l≤r∧r≤x.size) (K (.string (x.extract l.toNat r.toNat)))
@[congr] theorem slS_congr {u u':Option TypeDesc} {x:ByteArray} {l r:Int} {K:Value→Prop} (h1:u=u'):rK u x l r K=rK u' x l r K:=by rw[h1]
theorem oA(x:ByteArray)(lo hi:Option Value)(K:Value→Prop):co P t (.string x) lo hi K=AZ (B6 lo 0) fun l=>AZ (B6 hi x.size) fun r=>rK (P.underlying t) x l r K:=rfl
theorem VA(x:ByteArray)(l r:Int)(K:Value→Prop):rK (some .string) x l r K=Ay (0≤l∧l≤r∧r≤x.size) (K (.string (x.extract l.toNat r.toNat))):=by simp[rK]
theorem ny(p:Option Addr)(n m:Nat)(lo hi:Option Value)(K:Value→Prop):co P t (.slice p n m) lo hi K=
  AZ (MW P t) fun e=>AZ (B6 lo 0) fun l=>AZ (B6 hi n) fun r=>Ay (0≤l∧l≤r∧r≤m) (K (.slice (if m=l.toNat then p else p.map (·.add (l.toNat*e.2.1))) (r.toNat - l.toNat) (m - l.toNat))):=rfl
def tJ(s:Option (Bool×Nat))(h:AL)(p:Addr):Option Value:=match s with
 |some (true,n)=>Gp (FY h p n)
 |some (false,_)=>HW h p
 |none=>none
theorem bn(h:AL)(p:Addr):Jm P h t p=tJ (J4 P t) h p:=rfl
theorem ja(h:AL)(p:Addr)(n:Nat):tJ (some (true,n)) h p=Gp (FY h p n):=rfl
theorem jb(h:AL)(p:Addr)(n:Nat):tJ (some (false,n)) h p=HW h p:=rfl
theorem VZ(c:Array Value):Gp (some c)=some (.agg c):=rfl
def Lh(o:Option Obj)(i:Nat):Option Value:=match o with|some (.cells c _ _)=>c[i]? |_=>none
theorem Pt(h:AL)(g o:Nat):HW h ⟨g,o,none⟩=Lh h[g]? o:=rfl
theorem Pu(c:Array Value)(e:TypeId)(fr:Nat×Nat)(o:Nat):Lh (some (.cells c e fr)) o=c[o]? :=rfl
def DW(b:Option Obj)(o n:Nat):Option (Array Value):=match b with|some (.cells c _ _)=>if o+n≤c.size then some (c.extract o (o+n))else none|_=>none
theorem MH(h:AL)(g o n:Nat):FY h ⟨g,o,none⟩ n=DW h[g]? o n:=by
 unfold FY DW;simp;rfl
theorem B7(c:Array Value)(e:TypeId)(fr:Nat×Nat)(o n:Nat):DW (some (.cells c e fr)) o n=if o+n≤c.size then some (c.extract o (o+n))else none:=rfl
def sH(h:AL)(g:Nat)(b:Option Obj)(o:Nat)(vs:List Value):Option AL:=match b with
 |some (.cells c e fr)=>if o+vs.length≤c.size∧(fr.2≤o∨o+vs.length≤fr.1)∧DH vs=true then some (h.setIfInBounds g (.cells (By c o vs) e fr))else none
 |_=>none
theorem Mk(h:AL)(g o:Nat)(vs:List Value):GX h ⟨g,o,none⟩ vs=sH h g h[g]? o vs:=by
 unfold GX sH;simp;rfl
theorem YF(h:AL)(g:Nat)(c:Array Value)(e:TypeId)(o:Nat)(vs:List Value):sH h g (some (.cells c e (0,0))) o vs=
  if o+vs.length≤c.size∧DH vs=true then some (h.setIfInBounds g (.cells (By c o vs) e))else none:=by simp[sH]
theorem Ti(c:Array Value)(o:Nat):By c o []=c:=rfl
theorem RF(c:Array Value)(o:Nat)(v:Value)(l:List Value):By c o (v::l)=By (c.setIfInBounds o v) (o+1) l:=rfl
theorem Qj:DH []=true:=rfl
theorem On(v:Value)(l:List Value):DH (v::l)=(v.oneCell'&&DH l):=rfl
theorem fS(vs:List (Nat×Value)):Yx P t vs=Yw P t (NR P t) (JA P t) vs:=rfl
theorem Vj(z:Value)(vs:List (Nat×Value)):Yw P t true (some z) vs=Gp (J8 P t z.cells vs):=rfl
def lV(P:Program)(t:TypeId)(c:Array Value)(v:Value)(l:List (Nat×Value))(f:Option (Nat×Bool×Nat)):Option (Array Value):=match f with
 |some (off,_,n)=>if v.cells.size=n∧off+n≤c.size then J8 P t (By c off v.cells.toList) l else none
 |none=>none
theorem Yv(c:Array Value):J8 P t c []=some c:=rfl
theorem Vg(c:Array Value)(i:Nat)(v:Value)(l:List (Nat×Value)):J8 P t c ((i,v)::l)=lV P t c v l (iG P t i):=by
 unfold J8 lV;rfl
theorem Vi(c:Array Value)(v:Value)(l:List (Nat×Value))(off n:Nat)(g:Bool):lV P t c v l (some (off,g,n))=if v.cells.size=n∧off+n≤c.size then J8 P t (By c off v.cells.toList) l else none:=rfl
def mH(x:Value)(f:Option (Nat×Bool×Nat)):Option Value:=match x,f with
 | .agg cs,some (off,true,n)=>some (.agg (cs.extract off (off+n)))
 | .agg cs,some (off,false,_)=>cs[off]?
 |_,_=>none
theorem iH(x:Value)(i:Nat):Zv P t i x=mH x (iG P t i):=rfl
theorem Zt(c:Array Value)(off n:Nat):mH (.agg c) (some (off,true,n))=some (.agg (c.extract off (off+n))):=rfl
theorem Zu(c:Array Value)(off n:Nat):mH (.agg c) (some (off,false,n))=c[off]? :=rfl
theorem bE(x:Bool):(Value.bool x).oneCell'=true:=rfl
theorem jK(k:IntKind)(n:Int):(Value.int k n).oneCell'=true:=rfl
theorem Sl(s:ByteArray):(Value.string s).oneCell'=true:=rfl
theorem Ql(p:Option Addr):(Value.pointer p).oneCell'=true:=rfl
theorem Wj(p:Option Addr)(n m:Nat):(Value.slice p n m).oneCell'=true:=rfl
theorem jL(p:Option Nat):(Value.map p).oneCell'=true:=rfl
theorem bG(f:Fn)(x y:Array Value):(Value.func f x y).oneCell'=true:=rfl
theorem Vo(c:Array Value):(Value.agg c).cells=c:=rfl
theorem Vp(k:IntKind)(n:Int):(Value.int k n).cells= #[.int k n]:=rfl
theorem Rw(x:Bool):(Value.bool x).cells= #[.bool x]:=rfl
theorem OM(s:ByteArray):(Value.string s).cells= #[.string s]:=rfl
theorem Mt(p:Option Addr):(Value.pointer p).cells= #[.pointer p]:=rfl
theorem Pv(p:Option Addr)(n m:Nat):(Value.slice p n m).cells= #[.slice p n m]:=rfl
theorem Vq(p:Option Nat):(Value.map p).cells= #[.map p]:=rfl
theorem Rx(f:Fn)(x y:Array Value):(Value.func f x y).cells= #[.func f x y]:=rfl
end
theorem io(b:Bool)(A B:Prop):KJ b A B=if b=true then A else B:=by cases b<;>simp[KJ]
theorem V7[dd:DefD](c:Cx)(k:List It)(ρ:Ak)(h:AL):fl c (some k) ρ h=den c k ρ h:=rfl
@[congr] theorem denX_congr [dd:DefD] {c:Cx} {k k':Option (List It)} {ρ:Ak} {h:AL} (e:k=k'):fl c k ρ h=fl c k' ρ h:=by rw[e]
theorem WL(id:Nat)(k:List It):Bz id (.blk id::k)=some k:=by simp[Bz]
theorem SD(id i:Nat)(k:List It)(hne: ¬i=id):Bz id (.blk i::k)=Bz id k:=by simp[Bz,hne]
theorem SE(id:Nat)(x:Code)(k:List It):Bz id (.code x::k)=Bz id k:=rfl
theorem Zl(id:Nat)(x:Code)(k:List It):Bz id (.lp x::k)=Bz id k:=rfl
theorem Zm(id:Nat)(x:Code)(k:List It):Bz id (.sc x::k)=Bz id k:=rfl
section
variable (P:Program) (n:Nat) (all:List Oper) (m:Nat) (ρ:Ak) (h:AL) (K:Ak→AL→Prop) (X:List PanicEntry→AL→Prop)
variable (dst:Option Nat) (ty:TypeId) (pos:String) (aft:Array Edge) (gd:Option (Nat×Bool)) (rest:List Oper)
def QM(cur:Option (Nat×Bool))(j:Nat)(want:Bool)(g after:List Oper)(s:Nat)(b:Bool)(pure:Bool):Prop:=
 match pure,after with
 |true,p::after'=>match Bv want s p.op with
  |some y=>BK P n all m (some (j,want)) g ρ h (fun ρ' h'=>AZ (Aa ρ' y) fun c=>CO n p.dst want b c (Ck g ρ) fun ρ''=>BK P n all m cur after' ρ'' h' K X) X
  |none=>False
 |_,after=>KJ (b==want) (BK P n all m (some (j,want)) g ((s,some (.bool want))::ρ) h (fun ρ' h'=>BK P n all m cur after ρ' h' K X) X) (BK P n all m cur after (Ck g ((s,some (.bool (!want)))::ρ)) h K X)
@[congr] theorem grpP_congr {P:Program} {n:Nat} {all:List Oper} {m:Nat} {ρ:Ak} {h:AL} {K:Ak→AL→Prop} {X:List PanicEntry→AL→Prop} {cur:Option (Nat×Bool)} {j:Nat} {want:Bool} {g g' after after':List Oper} {s:Nat} {b pu pu':Bool} (h1:g=g') (h2:after=after') (h3:pu=pu'):
  QM P n all m ρ h K X cur j want g after s b pu=QM P n all m ρ h K X cur j want g' after' s b pu':=by rw[h1,h2,h3]
theorem ib(cur:Option (Nat×Bool))(j:Nat)(want:Bool)(g after:List Oper)(s:Nat)(b:Bool):mU P n all m ρ h K X cur j want g after s b=Ay (Br all s j want [] g=true) (QM P n all m ρ h K X cur j want g after s b (Dy g)):=rfl
theorem iZ(cur:Option (Nat×Bool))(j:Nat)(want:Bool)(g after:List Oper)(s:Nat)(b:Bool):QM P n all m ρ h K X cur j want g after s b false=
  KJ (b==want) (BK P n all m (some (j,want)) g ((s,some (.bool want))::ρ) h (fun ρ' h'=>BK P n all m cur after ρ' h' K X) X) (BK P n all m cur after (Ck g ((s,some (.bool (!want)))::ρ)) h K X):=rfl
theorem ia(cur:Option (Nat×Bool))(j:Nat)(g after:List Oper)(s:Nat)(b:Bool)(y:Operand):QM P n all m ρ h K X cur j false g (⟨dst,.pick (.tmp s) (.const (.bool true)) y,ty,pos,aft,gd⟩::after) s b true=
  BK P n all m (some (j,false)) g ρ h (fun ρ' h'=>AZ (Aa ρ' y) fun c=>CO n dst false b c (Ck g ρ) fun ρ''=>BK P n all m cur after ρ'' h' K X) X:=by simp[QM,Bv]
theorem aB(cur:Option (Nat×Bool))(j:Nat)(g after:List Oper)(s:Nat)(b:Bool)(y:Operand):QM P n all m ρ h K X cur j true g (⟨dst,.pick (.tmp s) y (.const (.bool false)),ty,pos,aft,gd⟩::after) s b true=
  BK P n all m (some (j,true)) g ρ h (fun ρ' h'=>AZ (Aa ρ' y) fun c=>CO n dst true b c (Ck g ρ) fun ρ''=>BK P n all m cur after ρ'' h' K X) X:=by simp[QM,Bv]
end
theorem Wc(a b:Nat)(l:List Nat):(a∈b::l)=(a=b∨a∈l):=by simp
theorem az(a:Nat):(a∈([]:List Nat))=False:=by simp
theorem WQ(all:List Oper)(s j:Nat)(want:Bool)(sk:List Nat):Br all s j want sk []=true:=by simp[Br]
theorem SJ(all:List Oper)(s j:Nat)(want:Bool)(sk:List Nat)(d j':Nat)(w':Bool)(op:Op)(ty:TypeId)(pos:String)(aft:Array Edge)(l:List Oper):Br all s j want sk (⟨some d,op,ty,pos,aft,some (j',w')⟩::l)=
  if d=s then false else if j'=j∧w'=want then Br all s j want (d::sk) l else mS all s j want sk d l (Bq all j'):=by
 simp only[Br,mS];cases Bq all j'<;>rfl
theorem WR(all:List Oper)(s j:Nat)(want:Bool)(sk:List Nat)(d s':Nat)(l:List Oper):mS all s j want sk d l (some s')=if s'∈sk then Br all s j want (d::sk) l else false:=rfl
theorem ic(ρ:Ak):Ck [] ρ=ρ:=rfl
theorem aD(d:Nat)(op:Op)(ty:TypeId)(pos:String)(aft:Array Edge)(gd:Option (Nat×Bool))(l:List Oper)(ρ:Ak):Ck (⟨some d,op,ty,pos,aft,gd⟩::l) ρ=Ck l ((d,none)::ρ):=rfl
theorem XH(x:Operand):Bk (.move x)=true:=rfl
theorem XJ(x a b:Operand):Bk (.pick x a b)=true:=rfl
theorem O1(x:Operand)(i:Nat):Bk (.extract x i)=true:=rfl
theorem XL(op:UnOp)(t:TypeId)(x:Operand):Bk (.unOp op t x)=true:=rfl
theorem bX(xs:Array Operand)(ts:Array TypeId):Bk (.call ⟨.builtin .len,xs,ts⟩)=true:=rfl
def Ev(op:BinOp):Bool:=match op with| .quo| .rem| .shl| .shr=>false|_=>true
theorem Sx(op:BinOp)(t:TypeId)(x y:Operand)(t':TypeId):Bk (.binOp op t x y t')=Ev op:=rfl
theorem Wx:Ev .eql=true:=rfl
theorem W9:Ev .neq=true:=rfl
theorem W7:Ev .lss=true:=rfl
theorem W6:Ev .leq=true:=rfl
theorem Wz:Ev .gtr=true:=rfl
theorem Wy:Ev .geq=true:=rfl
theorem Wv:Ev .add=true:=rfl
theorem XC:Ev .sub=true:=rfl
theorem W8:Ev .mul=true:=rfl
theorem Ww:Ev .and=true:=rfl
theorem bV:Ev .or=true:=rfl
theorem XA:Ev .quo=false:=rfl
theorem XB:Ev .rem=false:=rfl
theorem XG(t:TypeId)(x:Operand):Bk (.load t x)=false:=rfl
theorem S0(t:TypeId)(x y:Operand):Bk (.index t x y)=false:=rfl
theorem MG(t:TypeId)(x y:Operand):Bk (.indexAddr t x y)=false:=rfl
theorem MF(t:TypeId)(x:Operand)(i:Nat):Bk (.fieldAddr t x i)=false:=rfl
theorem Sz(t:TypeId)(x:Operand)(i:Nat):Bk (.field t x i)=false:=rfl
theorem M6(x:Operand):Bk (.nilCheck x)=false:=rfl
theorem XF(f:Operand)(xs:Array Operand)(ts:Array TypeId):Bk (.call ⟨.value f,xs,ts⟩)=false:=rfl
theorem S3(t:TypeId)(x:Operand)(a b c:Option Operand):Bk (.slice t x a b c)=false:=rfl
theorem O0(t t':TypeId)(x:Operand):Bk (.convert t t' x)=false:=rfl
theorem Qu(t:TypeId)(x y:Operand)(ok:Bool):Bk (.lookup t x y ok)=false:=rfl
theorem Sy(t:TypeId)(ps:Array (Nat×Operand)):Bk (.build t ps)=false:=rfl
theorem Sw(t:TypeId):Bk (.alloc t)=false:=rfl
theorem bW(t:TypeId)(x:Operand):Bk (.box t x)=false:=rfl
theorem Qt(x:Operand):Bk (.assign x)=false:=rfl
def Bl:=An @ny (An @VA (An @oA (An @ip (An @QP (An @ik (An @QZ (An @UW (An @iu (An @Qa (An @ix (An @JP (An @Lj (An @P0 (An @NW (An @Pz (An @fZ (An @fp (An @fo (An @ls (An @lr (An @ZK (An @V9 (An @fq (An @fu (An @ZG (An @V8 (An @WA (An @ZJ (An @R9 (An @P9 (An @ZH (An @V7 (An @R6 (An @OR (An @Vy (An @P6 (An @Lo (An @WS (An @XP (An @XO (An @YV (An @YU (An @SP (An @Rs (An @jh (An @aJ (An @Sq (An @Zk (An @Zj (An @ib (An @kC (An @X5 (An @kE (An @dK (An @oD (An @dM (An @NK (An @kB (An @dV (An @RL (An @dL (An @kF (An @Tn (An @KU (An @RK (An @Tp (An @PL (An @dU (An @PJ (An @dO (An @PK (An @dR (An @X8 (An @PM (An @X7 (An @dT (An @kD (An @NL (An @To (An @oF (An @X4 (An @oE (An @kA (An @X6 (An @j9 (An @dS (An @e8 (An @fR (An @fK (An @fN (An @fO (An @fC (An @fL (An @fJ (An @fH (An @fG (An @fD (An @e9 (An @lU (An @fP (An @fQ (An @Yo (An @Yp (An @Yu (An @Yt (An @Ys (An @Yr (An @Yq (An @Yi (An @Yj (An @Ym (An @Yn (An @Ve (An @Vf (An @Yk (An @Yl (An @Yg @Yh)))))))))))))))))))))))))))))))))))))))))))))))))))))))))))))))))))))))))))))))))))))))))))))))))))))))))))))))))))))
theorem d7(ρ:Ak)(K:Ak→Prop):DL ρ K=K ρ:=rfl
def uu:=An @io (An @d7 (An @VA (An @QP (An @QZ (An @Qa (An @JP (An @Lj (An @P0 (An @NW (An @Pz (An @bG (An @jL (An @Wj (An @Ql (An @Sl (An @jK (An @bE (An @Zu (An @Zt (An @iH (An @Vi (An @Vg (An @Vj (An @fS (An @YF (An @Mk (An @B7 (An @MH (An @Pu (An @Pt (An @jb (An @ja (An @bn (An @Ws (An @Wr (An @bN (An @Vb (An @ZQ (An @ZP (An @fy (An @WG (An @fz (An @gD (An @ZS (An @gG (An @ZU (An @gF (An @ZT (An @gH (An @gA (An @ZR (An @lw (An @Yy (An @DG (An @QQ (An @Nf (An @WP (An @SH (An @VY (An @Rh (An @Q9 (An @Q8 (An @XE (An @Sv (An @XH (An @XJ (An @O1 (An @Sx (An @XL (An @bX (An @XG (An @S0 (An @MG (An @MF (An @Sz (An @M6 (An @XF (An @S3 (An @O0 (An @Qu (An @Sy (An @Sw (An @bW (An @Qt (An @Wx (An @W9 (An @W7 (An @W6 (An @Wz (An @Wy (An @Wv (An @XC (An @W8 (An @XA (An @XB (An @Ww (An @bV (An @iU (An @AO (An @Vn (An @Rt (An @R3 (An @R2 (An @gK (An @WJ (An @SB (An @ZW (An @gJ (An @ZV (An @R1 (An @gL (An @ZX (An @R4 (An @Wp (An @Wq (An @bu (An @XU (An @bw (An @XW (An @Sj (An @bC (An @jM (An @jN (An @Wk (An @bF (An @Pi (An @Eb (An @kO (An @kP (An @Pm (An @Pn (An @VZ (An @Ti (An @RF (An @Qj (An @On (An @Yv (An @Vo (An @Vp (An @Rw (An @OM (An @Mt (An @Pv (An @Vq (An @Rx (An @SO (An @QU (An @WL (An @SD (An @SE (An @Zl (An @Zm (An @iZ (An @WQ (An @SJ (An @WR (An @ic (An @aD (An @Wc (An @az (An @ia @aB)))))))))))))))))))))))))))))))))))))))))))))))))))))))))))))))))))))))))))))))))))))))))))))))))))))))))))))))))))))))))))))))))))))))))))))))))))))))))))))))))
end Go.Vm
