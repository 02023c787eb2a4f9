/-
Regions that draw their order and leave the heap as it is: one evaluation in the order of the text serves every order.
Conditions: none. Generic: it speaks of no program.
-/
import Derived.Test.YtfphceknmgadgaaGreatDoorVmEq
set_option linter.unusedSimpArgs false
set_option linter.unusedVariables false
namespace Go.Vm
def Hx(P:Program):Op→Bool
 | .move _| .assign _| .pick .. | .build .. | .load .. | .nilCheck _| .binOp .. | .unOp .. | .makeInterface .. | .makeFunc .. | .fieldAddr .. | .field .. | .indexAddr .. | .index .. | .extract .. =>true
 | .slice .. =>true
 | .convert _ d _=>match P.underlying d with|some (.int _)=>true|_=>false
 | .call {callee:=.builtin .len, ..}=>true
 |_=>false
def DE(sp:Bool):Op→Bool
 | .move _| .pick .. | .extract .. | .unOp .. =>true
 | .binOp op .. =>match op with| .quo| .rem| .shl| .shr=>false|_=>true
 | .call {callee:=.builtin .len, ..}=>true
 | .load .. | .nilCheck _| .fieldAddr .. | .field .. | .build .. => !sp
 |_=>false
def FF(sp:Bool):List Oper→Bool
 | []=>true
 |o::l=>DE sp o.op&&FF sp l
def bY(P:Program)(n:Nat)(dst:Option Nat)(f:Value)(vs:List Value)(ρ:Ba)(h:AY)(K:Ba→Prop)(_t:Tg K:=()):Prop:=
 match f with
 | .func (.func g) fs cs=>Bf (AD P g=true) (∃v,CallsH P g (fs++vs.toArray++cs) h (fun e h'=>e=.returned v∧h'=h)∧BJ n dst v ρ K)
 |_=>False
def Wb(P:Program)(n:Nat)(o:Oper)(ρ:Ba)(h:AY)(K:Ba→Prop):Prop:=
 match o.op with
 | .call {callee:=.value f,args, ..}=>Ay (BE ρ f) fun fv=>Ay (GA ρ args.toList) fun vs=>bY P n o.dst fv vs ρ h K
 |op=>Bf (Hx P op=true) (HL P op o.type ρ h fun v _=>BJ n o.dst v ρ K)
def K2(P:Program)(n:Nat)(sp:Bool)(all:List Oper)(h:AY):Nat→Option (Nat×Bool)→List Oper→Ba→(Ba→Prop)→Prop
 |0,_,_,_,_=>False
 |_+1,_,[],ρ,K=>K ρ
 | m +1,cur,o::rest,ρ,K=>
  if o.guard=cur then Wb P n o ρ h (fun ρ'=>K2 P n sp all h m cur rest ρ' K)
  else match o.guard with
   |none=>False
   | some (j,want)=>Ay (Cj all j) fun s=>Ay (get ρ s) fun v=>match v with
    | .bool b=>Bf (Cn all s j want [] (Bl cur (o::rest))=true)
     (match FF sp (Bl cur (o::rest)),CJ cur (o::rest)with
     |true,p::after=>match Cs want s p.op with
      |some y=>K2 P n sp all h m (some (j,want)) (Bl cur (o::rest)) ρ (fun ρ'=>Ay (BE ρ' y) fun c=>C9 n p.dst want b c (DR (Bl cur (o::rest)) ρ) fun ρ''=>K2 P n sp all h m cur after ρ'' K)
      |none=>False
     |_,after=>Jx (b==want) (K2 P n sp all h m (some (j,want)) (Bl cur (o::rest)) ((s,some (.bool want))::ρ) (fun ρ'=>K2 P n sp all h m cur after ρ' K)) (K2 P n sp all h m cur after (DR (Bl cur (o::rest)) ((s,some (.bool (!want)))::ρ)) K))
    |_=>False
section
variable {P:Program} {n:Nat} {ρ:Ba} {h:AY} {K:Value→AY→Prop} {dst:Option Nat} {ty:TypeId} {pos:String} {aft:Array Edge} {gd:Option (Nat×Bool)}
theorem Jt[dd:DefD]{op:Op}(hq:Hx P op=true)(hp:HL P op ty ρ h K):
  ∃v,(∀(a:Act) (w:World),CV n ρ a→w.heap=h→(execOp a.eval ⟨dst,op,ty,pos,aft,gd⟩).run P w=.ok (.value v) w)∧K v h:=by
 unfold HL at hp
 split at hp
 ·obtain⟨v,hv,hK⟩:=AB hp
  exact⟨v,fun a w hk hw=>by simp[execOp,Ac hk hv],hK⟩
 ·obtain⟨v,hv,hK⟩:=AB hp
  exact⟨v,fun a w hk hw=>by simp[execOp,Ac hk hv],hK⟩
 ·obtain⟨v,hv,hp⟩:=AB hp
  unfold QG at hp
  split at hp
  ·rename_i b
   cases b with
   |true=>
    obtain⟨u,hu,hK⟩:=AB (hp.1 rfl)
    exact⟨u,fun a w hk hw=>by simp[execOp,Ac hk hv,Ac hk hu,asBool],hK⟩
   |false=>
    obtain⟨u,hu,hK⟩:=AB (hp.2 rfl)
    exact⟨u,fun a w hk hw=>by simp[execOp,Ac hk hv,Ac hk hu,asBool],hK⟩
  ·exact hp.elim
 ·cases hq
 ·cases hq
 ·rename_i t ps
  obtain⟨vs,hv,hp⟩:=AB hp
  obtain⟨v,hb,hK⟩:=AB hp
  obtain⟨c,hc,rfl⟩:=Mr hb
  refine⟨_,fun a w hk hw=> ?_,hK⟩
  have hpe:=Hn hk hv
  have:(ps.map fun(x:Nat×Operand)=>(x.1,a.eval x.2)).toList=vs:=by rw[←hpe];simp
  have hr:=run_build (P:=P) w t (ps.map fun(x:Nat×Operand)=>(x.1,a.eval x.2)) c (by rw[this];exact hc)
  simp[execOp,hr]
 ·cases hq
 ·obtain⟨p,hp1,hp⟩:=AB hp
  obtain⟨ad,ha,hp⟩:=AB hp
  obtain⟨v,hv,hK⟩:=AB hp
  have:=DT ha
  subst this
  exact⟨v,fun a w hk hw=>by simp[execOp,Instr.loadAt,Instr.sureAddr,Ac hk hp1,FK hw hv],hK⟩
 ·cases hq
 ·obtain⟨p,hp1,hp⟩:=AB hp
  obtain⟨ad,ha,hK⟩:=AB hp
  have:=DT ha
  subst this
  exact⟨_,fun a w hk hw=>by simp[execOp,Ac hk hp1],hK⟩
 ·rename_i op t x y t'
  obtain⟨u,hu,hp⟩:=AB hp
  obtain⟨v,hv,hp⟩:=AB hp
  obtain⟨r,hr,hK⟩:=Lw (P:=P) (x:=x) (y:=y) hp
  refine⟨r,fun a w hk hw=> ?_,hK⟩
  simp only[execOp,Ac hk hu,Ac hk hv]
  rw[Sem.run_bind,hr w]
  rfl
 ·obtain⟨v,hv,hp⟩:=AB hp
  obtain⟨u,hu,hK⟩:=AB hp
  refine⟨u,fun a w hk hw=> ?_,hK⟩
  unfold oL at hu
  split at hu
  ·simp at hu;subst hu;simp[execOp,Ac hk hv,Op.unary,Op.intArith]
  ·simp at hu;subst hu;simp[execOp,Ac hk hv,Op.unary]
  ·cases hu
 ·rename_i s d x
  obtain⟨v,hv,hp⟩:=AB hp
  simp only[Hx]at hq
  split at hq
  ·rename_i k hd
   unfold Qq at hp
   split at hp
   ·rename_i h1 h2
    split at hp
    ·exact⟨_,fun a w hk hw=>by simp[execOp,Ac hk hv,convert,underlying,h1,h2,Conv.intToInt],hp⟩
    ·exact hp.elim
   ·rename_i h1 h2;rw[hd]at h2;cases h2
   ·rename_i h1 h2;rw[hd]at h2;cases h2
   ·rename_i h1 h2 h3
    obtain⟨_,w',hr,_,_⟩:=hp {(default:World)with heap:=h} rfl
    cases hs:P.underlying s with
    |some ds=>exact(h1 ds k hs hd).elim
    |none=>simp[convert,underlying,hs]at hr
  ·cases hq
 ·obtain⟨v,hv,hp⟩:=AB hp
  obtain⟨hc,hK⟩:=hp
  exact⟨_,fun a w hk hw=>by simp[execOp,Ac hk hv,run_makeInterface w _ _ hc],hK⟩
 ·obtain⟨us,hu,hp⟩:=AB hp
  obtain⟨vs,hv,hK⟩:=AB hp
  exact⟨_,fun a w hk hw=>by simp[execOp,DY hk hu,DY hk hv,Instr.makeFunc],hK⟩
 ·cases hq
 ·cases hq
 ·obtain⟨v,hv,hp⟩:=AB hp
  obtain⟨l,hl,hp⟩:=AB hp
  obtain⟨r,hr,hp⟩:=AB hp
  obtain⟨u,hu,hK⟩:=OS (P:=P) hp
  refine⟨u,fun a w hk hw=> ?_,hK⟩
  have opt: ∀{o:Option Operand} {x:Option Value},Ea ρ o=some x→o.map a.eval=x:=by
   intro o x ho
   cases o with
   |none=>simp[Ea]at ho;simp[ho]
   |some y=>
    simp only[Ea]at ho
    cases hy:BE ρ y with
    |none=>simp[hy]at ho
    |some z=>simp[hy]at ho;simp[Ac hk hy,ho]
  simp[execOp,Ac hk hv,opt hl,opt hr,hu w]
 ·obtain⟨v,hv,hp⟩:=AB hp
  obtain⟨l,hl,hp⟩:=AB hp
  obtain⟨r,hr,hp⟩:=AB hp
  obtain⟨mv,hm,hp⟩:=AB hp
  obtain⟨u,hu,hK⟩:=MZ (P:=P) hp
  refine⟨u,fun a w hk hw=> ?_,hK⟩
  have opt: ∀{o:Option Operand} {x:Option Value},Ea ρ o=some x→o.map a.eval=x:=by
   intro o x ho
   cases o with
   |none=>simp[Ea]at ho;simp[ho]
   |some y=>
    simp only[Ea]at ho
    cases hy:BE ρ y with
    |none=>simp[hy]at ho
    |some z=>simp[hy]at ho;simp[Ac hk hy,ho]
  simp[execOp,Ac hk hv,opt hl,opt hr,Ac hk hm,hu w]
 ·obtain⟨p,hp1,hp⟩:=AB hp
  obtain⟨ad,ha,hp⟩:=AB hp
  obtain⟨f,hf,hp⟩:=AB hp
  obtain⟨hz,hK⟩:=hp
  have:=DT ha
  subst this
  obtain⟨fs,g,h1,h2,h3,h4⟩:=Ja hf
  refine⟨_,fun a w hk hw=> ?_,hK⟩
  have hso:(sizeOf g.type).run P w=.ok f.2.2 w:=DV (b:=f.2.1) h4
  simp[execOp,Instr.fieldAt,underlying,h1,h2,Instr.sureAddr,Ac hk hp1,fieldPlace,hso,hz,h3]
 ·obtain⟨v,hv,hp⟩:=AB hp
  obtain⟨u,hu,hK⟩:=AB hp
  exact⟨u,fun a w hk hw=>by simp[execOp,Ac hk hv,Lj hu],hK⟩
 ·obtain⟨v,hv,hp⟩:=AB hp
  obtain⟨i,hi,hp⟩:=AB hp
  obtain⟨u,hu,hK⟩:=MC (P:=P) hp
  exact⟨u,fun a w hk hw=>by simp[execOp,Ac hk hv,Ac hk hi,hu w],hK⟩
 ·obtain⟨v,hv,hp⟩:=AB hp
  obtain⟨i,hi,hp⟩:=AB hp
  obtain⟨u,hu,hK⟩:=Mf (P:=P) hp
  exact⟨u,fun a w hk hw=>by simp[execOp,Ac hk hv,Ac hk hi,hu w],hK⟩
 ·cases hq
 ·cases hq
 ·cases hq
 ·cases hq
 ·cases hq
 ·cases hq
 ·obtain⟨v,hv,hp'⟩:=AB hp
  clear hp
  split at hp'
  ·obtain⟨u,hu,hK⟩:=AB hp'
   exact⟨u,fun a w hk hw=>by simp[execOp,Ac hk hv,Instr.extract,hu],hK⟩
  ·exact hp'.elim
 ·rename_i b args ts
  obtain⟨vs,hv,hp'⟩:=AB hp
  clear hp
  split at hp'
  ·rename_i u0 t hts0
   have hts:ts= #[t]:=by apply Array.ext';simpa using hts0
   subst hts
   obtain⟨u,hu,hK⟩:=HT (P:=P) (ty:=ty) hp'
   refine⟨u,fun a w hk hw=> ?_,hK⟩
   simp[execOp,resolve,invoke,builtin,DY hk hv,hu w hw]
  all_goals first|cases hq|exact hp'.elim
 ·exact hp.elim
end
section
variable {P:Program} {n:Nat} {all:List Oper} {h:AY} {w0:World}
def UP(w0:World)(h:AY)(w:World):Prop:=w.heap=h∧BV w0 w
theorem S5[dd:DefD]{o:Oper}{ρ:Ba}{K:Ba→Prop}{a:Act}{next:Act→Prop}(hs:Wb P n o ρ h K)(hk:CV n ρ a)
  (hn: ∀ρ' a',K ρ'→CV n ρ' a'→(∀t,o.dst≠some t→get ρ' t=get ρ t)→next a'):o.quiet P a (UP w0 h) next:=by
 obtain⟨dst,op,ty,pos,aft,gd⟩:=o
 unfold Wb at hs
 split at hs
 ·rename_i f args ts hop
  simp only at hop
  subst hop
  obtain⟨fv,hf,hs'⟩:=AB hs
  clear hs
  obtain⟨vs,hv,hs⟩:=AB hs'
  clear hs'
  unfold bY at hs
  split at hs
  ·rename_i g fs cs
   obtain⟨hc,v,hcall,hput⟩:=hs
   obtain⟨ρ',hK,hk',he⟩:=D5 hk hput
   refine⟨v,fun w hw=> ?_,hn ρ' _ hK hk' he⟩
   have hrun:(execOp a.eval ⟨dst,.call ⟨.value f,args,ts⟩,ty,pos,aft,gd⟩).run P w=.ok (.enter g (fs++vs.toArray++cs)) w:=by
    simp only[execOp,resolve,Ac hk hf,Deferred.ofValue,Sem.run_bind,Sem.run_pure,Result.andThen_ok,invoke,DY hk hv]
    exact DJ hc
   unfold Oper.quietAt
   rw[hrun]
   refine⟨rfl,(hcall w hw.1).mono fun e w' ⟨⟨h1,h2⟩,h3⟩=>⟨h1,h2,hw.2.trans h3⟩⟩
  ·exact hs.elim
 ·obtain⟨hq,hs⟩:=hs
  obtain⟨v,hv,hput⟩:=Jt (n:=n) (dst:=dst) (pos:=pos) (aft:=aft) (gd:=gd) hq hs
  obtain⟨ρ',hK,hk',he⟩:=D5 hk hput
  refine⟨v,fun w hw=> ?_,hn ρ' _ hK hk' he⟩
  unfold Oper.quietAt
  rw[hv a w hk hw.1]
  exact⟨rfl,rfl⟩
theorem Li[dd:DefD]{s j:Nat}{want b:Bool}{C:World→Prop}{Q:Act→Prop}(hj:Cj all j=some s)(hb:b≠want){rest':List Oper}: ∀(l:List Oper) (sk:List Nat) (ρ:Ba) (a:Act),Cn all s j want sk l=true→CV n ρ a→
  a.tmps[s]? =some (.bool b)→(∀s'∈sk,a.tmps[s']? =some undef∨a.tmps[s']? =none)→(∀a',CV n (DR l ρ) a'→a'.tmps[s]? =some (.bool b)→wpQuiet P all.toArray C Q rest' a')→wpQuiet P all.toArray C Q (l++rest') a:=by
 intro l
 induction l with
 |nil=>intro sk ρ a _ hk hs _ hn;exact hn a hk hs
 | cons x l ih=>
  intro sk ρ a h hk hs hsk hn
  unfold Cn at h
  split at h
  ·rename_i d j' w' hd hg
   split at h
   ·cases h
   ·rename_i hds
    have hput:CV n ((d,none)::ρ) (a.put x.dst undef):=by rw[hd];exact hk.hide d undef
    have hs':(a.put x.dst undef).tmps[s]? =some (.bool b):=by
     rw[hd];simp only[Act.put,Array.getElem?_setIfInBounds];rw[if_neg hds];exact hs
    have hsk': ∀s'∈d::sk,(a.put x.dst undef).tmps[s']? =some undef∨(a.put x.dst undef).tmps[s']? =none:=by
     intro s' hm
     rw[hd];simp only[Act.put,Array.getElem?_setIfInBounds]
     rcases List.mem_cons.1 hm with rfl|hm
     ·simp only[if_true];split<;>simp
     ·split
      ·split<;>simp
      ·exact hsk s' hm
    have hhid:DR (x::l) ρ=DR l ((d,none)::ρ):=by simp[DR,hd]
    rw[hhid]at hn
    have go:Region.wanted x (yielded all.toArray a.tmps)=false→Cn all s j want (d::sk) l=true→wpQuiet P all.toArray C Q (x::l++rest') a:=by
     intro hw hok
     show wpQuiet P all.toArray C Q (x::(l++rest')) a
     unfold wpQuiet
     rw[if_neg (by simp[hw])]
     exact ih (d::sk) _ _ hok hput hs' hsk' hn
    split at h
    ·rename_i hjw
     obtain⟨rfl,rfl⟩:=hjw
     refine go ?_ h
     unfold Region.wanted
     simp only[hg,C1 hj,hs]
     simpa using hb
    ·split at h
     ·rename_i s' hs2
      split at h
      ·rename_i hm
       refine go ?_ h
       unfold Region.wanted
       rcases hsk s' hm with e|e
       ·simp only[hg,C1 hs2,e,undef];rfl
       ·simp only[hg,C1 hs2,e];rfl
      ·cases h
     ·cases h
  ·cases h
theorem Xq[dd:DefD]{sp:Bool}: ∀(m:Nat) (cur:Option (Nat×Bool)) (l:List Oper) (ρ:Ba) (K:Ba→Prop),K2 P n sp all h m cur l ρ K→ ∃ρ',K ρ':=by
 intro m
 induction m with
 |zero=>intro cur l ρ K hd;cases hd
 | succ m ih=>
  intro cur l ρ K hd
  have put: ∀{dst:Option Nat} {v:Value} {ρ:Ba} {K:Ba→Prop},BJ n dst v ρ K→ ∃ρ',K ρ':=by
   intro dst v ρ K hv
   cases dst with
   |none=>exact⟨ρ,hv⟩
   |some d=>exact⟨_,hv.2⟩
  cases l with
  |nil=>exact⟨ρ,hd⟩
  | cons o l=>
   unfold K2 at hd
   split at hd
   ·unfold Wb at hd
    split at hd
    ·obtain⟨fv,hf,hd'⟩:=AB hd
     clear hd
     obtain⟨vs,hv,hd⟩:=AB hd'
     clear hd'
     unfold bY at hd
     split at hd
     ·obtain⟨_,v,_,h1⟩:=hd
      obtain⟨ρ',h1⟩:=put h1
      exact ih _ _ _ _ h1
     ·exact hd.elim
    ·obtain⟨hq,hs⟩:=hd
     obtain⟨v,_,h1⟩:=Jt (n:=n) (dst:=none) (pos:= "") (aft:= #[]) (gd:=none) hq hs
     obtain⟨ρ',h1⟩:=put h1
     exact ih _ _ _ _ h1
   ·split at hd
    ·exact hd.elim
    ·rename_i j want hg
     obtain⟨s,hs,hd'⟩:=AB hd
     clear hd
     obtain⟨v,hv,hd⟩:=AB hd'
     clear hd'
     split at hd
     ·rename_i b
      obtain⟨_,hd⟩:=hd
      split at hd
      ·split at hd
       ·obtain⟨ρ1,h1⟩:=ih _ _ _ _ hd
        obtain⟨c,_,h1⟩:=AB h1
        unfold C9 at h1
        split at h1
        ·obtain⟨ρ',h1⟩:=put h1
         exact ih _ _ _ _ h1
        ·exact h1.elim
       ·exact hd.elim
      ·by_cases hb:(b==want)=true
       ·obtain⟨ρ1,h1⟩:=ih _ _ _ _ (hd.1 hb)
        exact ih _ _ _ _ h1
       ·exact ih _ _ _ _ (hd.2 (by simpa using hb))
     ·exact hd.elim
set_option maxHeartbeats 1000000 in
theorem Tb[dd:DefD]{sp:Bool}{Q:Act→Prop}: ∀(m:Nat) (cur:Option (Nat×Bool)) (rest:List Oper) (ρ:Ba) (K:Ba→Prop) (a:Act) (rest':List Oper),
  K2 P n sp all h m cur rest ρ K→CV n ρ a→FZ all ρ cur rest→
  (∀ρ' a',K ρ'→CV n ρ' a'→YD rest ρ ρ'→wpQuiet P all.toArray (UP w0 h) Q rest' a')→wpQuiet P all.toArray (UP w0 h) Q (rest++rest') a:=by
 intro m
 induction m with
 |zero=>intro cur rest ρ K a rest' hd;cases hd
 | succ m ih=>
  intro cur rest ρ K a rest' hd hk hc hn
  cases rest with
  |nil=>exact hn ρ a hd hk (fun t _=>rfl)
  | cons o l=>
   unfold K2 at hd
   split at hd
   ·rename_i hg
    have hw:=Ej hk hc hg
    show wpQuiet P all.toArray (UP w0 h) Q (o::(l++rest')) a
    unfold wpQuiet
    rw[if_pos hw]
    refine S5 hd hk fun ρ' a' h1 h2 h4=> ?_
    refine ih cur l ρ' K a' rest' h1 h2 ?_ fun ρ'' a'' k1 k2 k4=>hn ρ'' a'' k1 k2 fun t ht=> ?_
    ·cases cur with
     |none=>trivial
     |some c=>
      obtain⟨j,want⟩:=c
      obtain⟨s,e1,e2,e3⟩:=hc
      exact⟨s,e1,by rw[h4 s (e3 o (List.mem_cons_self ..)),e2],fun x hx=>e3 x (List.mem_cons_of_mem _ hx)⟩
    ·rw[k4 t (fun x hx=>ht x (List.mem_cons_of_mem _ hx)),h4 t (ht o (List.mem_cons_self ..))]
   ·rename_i hg
    split at hd
    ·exact hd.elim
    ·rename_i j want hgd
     obtain⟨s,hs,hd'⟩:=AB hd
     clear hd
     obtain⟨v,hv,hd⟩:=AB hd'
     clear hd'
     split at hd
     ·rename_i b
      obtain⟨hok,hd⟩:=hd
      have hsp:=Fe cur (o::l)
      generalize hgr:Bl cur (o::l)=g at*
      generalize haf:CJ cur (o::l)=after at*
      have hdst:=J9 _ _ hok
      have hgl: ∀x∈g,x∈o::l:=fun x hx=>by rw[←hsp];exact List.mem_append_left _ hx
      have hal: ∀x∈after,x∈o::l:=fun x hx=>by rw[←hsp];exact List.mem_append_right _ hx
      rw[←hsp,List.append_assoc]
      have hcurE: ∀{ρ1:Ba},YD g ρ ρ1→FZ all ρ1 cur after:=by
       intro ρ1 he
       cases cur with
       |none=>trivial
       |some c=>
        obtain⟨j',want'⟩:=c
        obtain⟨s',e1,e2,e3⟩:=hc
        exact⟨s',e1,by rw[he s' (fun x hx=>e3 x (hgl x hx)),e2],fun x hx=>e3 x (hal x hx)⟩
      have hskip: ∀{rest2:List Oper},b≠want→(∀a',CV n (DR g ρ) a'→a'.tmps[s]? =some (.bool b)→wpQuiet P all.toArray (UP w0 h) Q rest2 a')→wpQuiet P all.toArray (UP w0 h) Q (g++rest2) a:=
       fun hb h2=>Li hs hb g [] ρ a hok hk (hk.2.2 s _ hv) (fun s' hs'=>by cases hs') h2
      split at hd
      ·rename_i p after' hpu
       split at hd
       ·rename_i y hy
        have hpin: ∀x,x∈(p::after')→x∈o::l:=fun x hx=>hal x hx
        have fin: ∀(a':Act) (c:Bool),BJ n p.dst (.bool c) (DR g ρ) (fun ρ''=>K2 P n sp all h m cur after' ρ'' K)→CV n (DR g ρ) a'→
          wpQuiet P all.toArray (UP w0 h) Q (after'++rest') (a'.put p.dst (.bool c)):=by
         intro a' c h1 h2
         obtain⟨ρ',h4,h5,h6⟩:=D5 h2 h1
         have he: ∀t,(∀x∈o::l,x.dst≠some t)→get ρ' t=get ρ t:=fun t ht=>by
          rw[h6 t (ht p (hpin p (List.mem_cons_self ..))),EX g ρ (fun x hx=>ht x (hgl x hx))]
         refine ih cur after' ρ' K _ rest' h4 h5 ?_ fun ρ'' a'' k1 k2 k4=>hn ρ'' a'' k1 k2 fun t ht=> ?_
         ·cases cur with
          |none=>trivial
          |some c=>
           obtain⟨j',want'⟩:=c
           obtain⟨s',e1,e2,e3⟩:=hc
           exact⟨s',e1,by rw[he s' (fun x hx=>e3 x hx),e2],fun x hx=>e3 x (hpin x (List.mem_cons_of_mem _ hx))⟩
         ·rw[k4 t (fun x hx=>ht x (hpin x (List.mem_cons_of_mem _ hx))),he t ht]
        have hpw: ∀(ρ1:Ba) (a':Act),CV n ρ1 a'→FZ all ρ1 cur (p::after')→Region.wanted p (yielded all.toArray a'.tmps)=true:=by
         intro ρ1 a' h1 h2
         refine Ej h1 h2 ?_
         have: ∀(l:List Oper),CJ cur l=p::after'→p.guard=cur:=by
          intro l
          induction l with
          |nil=>intro h;simp[CJ]at h
          |cons x l ihl=>
           intro h
           unfold CJ at h
           split at h
           ·rename_i hx;simp at h;rw[←h.1];exact hx
           ·exact ihl h
         exact this _ haf
        have pickQ: ∀(a':Act) (c':Bool),a'.eval (.tmp s)=.bool b→(b=want→a'.eval y=.bool c')→wpQuiet P all.toArray (UP w0 h) Q (after'++rest') (a'.put p.dst (.bool (De want b c')))→p.quiet P a' (UP w0 h) (wpQuiet P all.toArray (UP w0 h) Q (after'++rest')):=by
         intro a' c' hcond hyv hnext
         refine⟨.bool (De want b c'),fun w _=> ?_,hnext⟩
         have hrun:(execOp a'.eval p).run P w=.ok (.value (.bool (De want b c'))) w:=by
          rcases Fs hy with⟨e,hop⟩|⟨e,hop⟩
          ·subst e
           cases b with
           |false=>simp[execOp,hop,hcond,hyv rfl,asBool,De]
           |true=>simp[execOp,hop,hcond,asBool,De,Act.eval];simp[Act.eval]at hcond;simp[hcond]
          ·subst e
           cases b with
           |true=>simp[execOp,hop,hcond,hyv rfl,asBool,De]
           |false=>simp[execOp,hop,hcond,asBool,De,Act.eval];simp[Act.eval]at hcond;simp[hcond]
         unfold Oper.quietAt
         rw[hrun]
         exact⟨rfl,rfl⟩
        by_cases hb:b=want
        ·refine ih (some (j,want)) g ρ _ a ((p::after')++rest') hd hk ⟨s,hs,by rw[hv,hb],hdst⟩ fun ρ1 a' k1 k2 k4=> ?_
         obtain⟨c,hc1,k1⟩:=AB k1
         unfold C9 at k1
         split at k1
         ·rename_i c'
          have hOk:CV n (DR g ρ) a':=⟨k2.1,k2.2.1,fun t u ht=>by
           obtain⟨h1,h2⟩:=Tt _ _ ht
           exact k2.2.2 t u (by rw[k4 t h1];exact h2)⟩
          show wpQuiet P all.toArray (UP w0 h) Q (p::(after'++rest')) a'
          unfold wpQuiet
          rw[if_pos (hpw ρ1 a' k2 (hcurE k4))]
          exact pickQ a' c' (Ac k2 (by simp only[BE];rw[k4 s hdst];exact hv)) (fun _=>Ac k2 hc1) (fin a' _ k1 hOk)
         ·exact k1.elim
        ·obtain⟨ρ1,h1⟩:=Xq m _ g ρ _ hd
         obtain⟨c,hc1,h1⟩:=AB h1
         unfold C9 at h1
         split at h1
         ·rename_i c'
          refine hskip hb fun a' h2 h3=> ?_
          show wpQuiet P all.toArray (UP w0 h) Q (p::(after'++rest')) a'
          unfold wpQuiet
          have hch:FZ all (DR g ρ) cur (p::after'):=hcurE (fun t ht=>EX g ρ ht)
          rw[if_pos (hpw _ a' h2 hch)]
          have hcond:a'.eval (.tmp s)=.bool b:=by
           simp only[Act.eval];rw[Array.getD_eq_getD_getElem?,h3];rfl
          exact pickQ a' c' hcond (fun e=>absurd e hb) (fin a' _ h1 h2)
         ·exact h1.elim
       ·exact hd.elim
      ·rename_i after _ _ _
       by_cases hb:b=want
       ·subst hb
        refine ih (some (j,b)) g ((s,some (.bool b))::ρ) _ a (after++rest') (hd.1 (by simp)) (hk.again hv) ⟨s,hs,(Dc hv s).trans hv,hdst⟩ fun ρ1 a' k1 k2 k4=> ?_
        replace k4:YD g ρ ρ1:=fun t ht=>(k4 t ht).trans (Dc hv t)
        refine ih cur after ρ1 K a' rest' k1 k2 (hcurE k4) fun ρ'' a'' q1 q2 q4=>hn ρ'' a'' q1 q2 fun t ht=> ?_
        rw[q4 t (fun x hx=>ht x (hal x hx)),k4 t (fun x hx=>ht x (hgl x hx))]
       ·have hbw:(!want)=b:=by cases b<;>cases want<;>simp at hb⊢
        have hd2:=hd.2 (by simpa using hb)
        rw[hbw]at hd2
        refine Li hs hb g [] ((s,some (.bool b))::ρ) a hok (hk.again hv) (hk.2.2 s _ hv) (fun s' hs'=>by cases hs') fun a' h2 h3=> ?_
        have he:YD g ρ (DR g ((s,some (.bool b))::ρ)):=fun t ht=>(EX g _ ht).trans (Dc hv t)
        refine ih cur after (DR g ((s,some (.bool b))::ρ)) K a' rest' hd2 h2 (hcurE he) fun ρ'' a'' q1 q2 q4=>hn ρ'' a'' q1 q2 fun t ht=> ?_
        rw[q4 t (fun x hx=>ht x (hal x hx)),he t (fun x hx=>ht x (hgl x hx))]
     ·exact hd.elim
end
theorem Gg.quiet[dd:DefD](sp:Bool){c:Cx}{id:Nat}{l:List Oper}{k:List It}{ρ:Ba}{h:AY}(hm:c.P.follows .mixedOrders=true)(hB:Region.lexB .any l.toArray=true)
  (hd:K2 c.P c.n sp l h 400 none l ρ fun ρ'=>C8 c k ρ' h): @Gg dd c (.code (.region id l.toArray true)::k) ρ h ():=by
 intro hf b a w hb hn hk hw
 refine .of_wp (Q:=fun e a' w'=>match e with| .normal=>DQ c.P b (k.map It.item) a' w' (fun e w'=>c.R e w'.heap∧BV w w')| .panic ch=>a'.defers=DefD.ds∧(c.R (.panicked ch) w'.heap∧BV w w')|_=>False) ?_ ⟨c.fn,by rw[hb];exact hf⟩ (fun e a' w' hq=>hq)
 refine wp_region_quiet (C:=UP w h) hm hB ⟨hw,rfl,rfl,rfl⟩ ?_
 have:=Tb (w0:=w) (Q:=fun a'=> ∀w',UP w h w'→DQ c.P b (k.map It.item) a' w' (fun e w'=>c.R e w'.heap∧BV w w')) 400 none l ρ _ a [] hd hk trivial
  (fun ρ' a' k1 k2 _=>wpQuiet_nil (fun w' hw'=>Df c _ _ _ _ (Nat.le_refl _) k1 w hf b a' w' hb hn k2 hw'.1 hw'.2))
 simpa using this
end Go.Vm
