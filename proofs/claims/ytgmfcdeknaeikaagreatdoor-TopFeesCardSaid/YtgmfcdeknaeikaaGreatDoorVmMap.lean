/-
Reads and draws, held orders, opened arguments, append, maps.
Conditions: none.
-/
import Derived.Test.YtgmfcdeknaeikaaGreatDoorVmEq
import Derived.OrdersHeld
import Derived.Laws.RangeAny
import Derived.Laws.Externs
import Derived.Below
import Derived.ChangeArms
import Derived.DataReads
import Derived.Laws.AppendOwn
import Derived.Laws.OwnMore
import Derived.MapKept
import Derived.WideMake
set_option linter.unusedSimpArgs false
set_option linter.unusedVariables false
set_option linter.defProp false
namespace Go.Vm
def Jl(P:Program):Op→Bool
 | .move _| .assign _| .pick .. | .build .. | .load .. | .nilCheck _| .binOp .. | .unOp .. | .makeInterface .. | .makeFunc .. | .fieldAddr .. | .field .. | .indexAddr .. | .index .. | .extract .. =>true
 | .slice .. =>true
 | .convert _ d _=>match P.underlying d with|some (.int _)=>true|_=>false
 | .call {callee:=.builtin .len, ..}=>true
 |_=>false
def CT(sp:Bool):Op→Bool
 | .move _| .pick .. | .extract .. | .unOp .. =>true
 | .binOp op .. =>match op with| .quo| .rem| .shl| .shr=>false|_=>true
 | .call {callee:=.builtin .len, ..}=>true
 | .load .. | .nilCheck _| .fieldAddr .. | .field .. | .build .. => !sp
 |_=>false
def Fc(sp:Bool):List Oper→Bool
 | []=>true
 |o::l=>CT sp o.op&&Fc sp l
def Y1(P:Program)(n:Nat)(dst:Option Nat)(f:Value)(vs:List Value)(ρ:Ak)(h:AL)(K:Ak→Prop)(_t:Tg K:=()):Prop:=
 match f with
 | .func (.func g) fs cs=>Ay (BR P g=true) (∃v,CallsH P g (fs++vs.toArray++cs) h (fun e h'=>e=.returned v∧h'=h)∧Ac n dst v ρ K)
 |_=>False
def VB(P:Program)(n:Nat)(o:Oper)(ρ:Ak)(h:AL)(K:Ak→Prop):Prop:=
 match o.op with
 | .call {callee:=.value f,args, ..}=>AZ (Aa ρ f) fun fv=>AZ (GD ρ args.toList) fun vs=>Y1 P n o.dst fv vs ρ h K
 |op=>Ay (Jl P op=true) (HY P op o.type ρ h fun v _=>Ac n o.dst v ρ K)
def Kt(P:Program)(n:Nat)(sp:Bool)(all:List Oper)(h:AL):Nat→Option (Nat×Bool)→List Oper→Ak→(Ak→Prop)→Prop
 |0,_,_,_,_=>False
 |_+1,_,[],ρ,K=>K ρ
 | m +1,cur,o::rest,ρ,K=>
  if o.guard=cur then VB P n o ρ h (fun ρ'=>Kt P n sp all h m cur rest ρ' K)
  else match o.guard with
   |none=>False
   | some (j,want)=>AZ (Bq all j) fun s=>AZ (get ρ s) fun v=>match v with
    | .bool b=>Ay (Br all s j want [] (A7 cur (o::rest))=true)
     (match Fc sp (A7 cur (o::rest)),BQ cur (o::rest)with
     |true,p::after=>match Bv want s p.op with
      |some y=>Kt P n sp all h m (some (j,want)) (A7 cur (o::rest)) ρ (fun ρ'=>AZ (Aa ρ' y) fun c=>CO n p.dst want b c (Ck (A7 cur (o::rest)) ρ) fun ρ''=>Kt P n sp all h m cur after ρ'' K)
      |none=>False
     |_,after=>KJ (b==want) (Kt P n sp all h m (some (j,want)) (A7 cur (o::rest)) ((s,some (.bool want))::ρ) (fun ρ'=>Kt P n sp all h m cur after ρ' K)) (Kt P n sp all h m cur after (Ck (A7 cur (o::rest)) ((s,some (.bool (!want)))::ρ)) K))
    |_=>False
section
variable {P:Program} {n:Nat} {ρ:Ak} {h:AL} {K:Value→AL→Prop} {dst:Option Nat} {ty:TypeId} {pos:String} {aft:Array Edge} {gd:Option (Nat×Bool)}
theorem KM[dd:DefD]{op:Op}(hq:Jl P op=true)(hp:HY P op ty ρ h K):
  ∃v,(∀(a:Act) (w:World),BO n ρ a→w.heap=h→(execOp a.eval ⟨dst,op,ty,pos,aft,gd⟩).run P w=.ok (.value v) w)∧K v h:=by
 unfold HY at hp
 split at hp
 ·obtain⟨v,hv,hK⟩:=AB hp
  exact⟨v,fun a w hk hw=>by simp[execOp,AN hk hv],hK⟩
 ·obtain⟨v,hv,hK⟩:=AB hp
  exact⟨v,fun a w hk hw=>by simp[execOp,AN hk hv],hK⟩
 ·obtain⟨v,hv,hp⟩:=AB hp
  unfold Pc at hp
  split at hp
  ·rename_i b
   cases b with
   |true=>
    obtain⟨u,hu,hK⟩:=AB (hp.1 rfl)
    exact⟨u,fun a w hk hw=>by simp[execOp,AN hk hv,AN hk hu,asBool],hK⟩
   |false=>
    obtain⟨u,hu,hK⟩:=AB (hp.2 rfl)
    exact⟨u,fun a w hk hw=>by simp[execOp,AN hk hv,AN hk hu,asBool],hK⟩
  ·exact hp.elim
 ·cases hq
 ·cases hq
 ·rename_i t ps
  obtain⟨vs,hv,hp⟩:=AB hp
  obtain⟨v,hb,hK⟩:=AB hp
  obtain⟨c,hc,rfl⟩:=Ld hb
  refine⟨_,fun a w hk hw=> ?_,hK⟩
  have hpe:=JT hk hv
  have:(ps.map fun(x:Nat×Operand)=>(x.1,a.eval x.2)).toList=vs:=by rw[←hpe];simp
  have hr:=run_build (P:=P) w t (ps.map fun(x:Nat×Operand)=>(x.1,a.eval x.2)) c (by rw[this];exact hc)
  simp[execOp,hr]
 ·cases hq
 ·obtain⟨p,hp1,hp⟩:=AB hp
  obtain⟨ad,ha,hp⟩:=AB hp
  obtain⟨v,hv,hK⟩:=AB hp
  have:=Cp ha
  subst this
  exact⟨v,fun a w hk hw=>by simp[execOp,Instr.loadAt,Instr.sureAddr,AN hk hp1,FZ hw hv],hK⟩
 ·cases hq
 ·obtain⟨p,hp1,hp⟩:=AB hp
  obtain⟨ad,ha,hK⟩:=AB hp
  have:=Cp ha
  subst this
  exact⟨_,fun a w hk hw=>by simp[execOp,AN hk hp1],hK⟩
 ·rename_i op t x y t'
  obtain⟨u,hu,hp⟩:=AB hp
  obtain⟨v,hv,hp⟩:=AB hp
  obtain⟨r,hr,hK⟩:=Lc (P:=P) (x:=x) (y:=y) hp
  refine⟨r,fun a w hk hw=> ?_,hK⟩
  simp only[execOp,AN hk hu,AN hk hv]
  rw[Sem.run_bind,hr w]
  rfl
 ·obtain⟨v,hv,hp⟩:=AB hp
  obtain⟨u,hu,hK⟩:=AB hp
  refine⟨u,fun a w hk hw=> ?_,hK⟩
  unfold pM at hu
  split at hu
  ·simp at hu;subst hu;simp[execOp,AN hk hv,Op.unary,Op.intArith]
  ·simp at hu;subst hu;simp[execOp,AN hk hv,Op.unary]
  ·cases hu
 ·rename_i s d x
  obtain⟨v,hv,hp⟩:=AB hp
  simp only[Jl]at hq
  split at hq
  ·rename_i k hd
   unfold P1 at hp
   split at hp
   ·rename_i h1 h2
    split at hp
    ·exact⟨_,fun a w hk hw=>by simp[execOp,AN hk hv,convert,underlying,h1,h2,Conv.intToInt],hp⟩
    ·exact hp.elim
   ·rename_i h1 h2;rw[hd]at h2;cases h2
   ·rename_i h1 h2;rw[hd]at h2;cases h2
   ·rename_i h1 h2 h3
    obtain⟨_,w',hr,_,_⟩:=hp {(default:World)with heap:=h} rfl
    cases hs:P.underlying s with
    |some ds=>exact(h1 ds k hs hd).elim
    |none=>simp[convert,underlying,hs]at hr
  ·cases hq
 ·obtain⟨v,hv,hp⟩:=AB hp
  obtain⟨hc,hK⟩:=hp
  exact⟨_,fun a w hk hw=>by simp[execOp,AN hk hv,run_makeInterface w _ _ hc],hK⟩
 ·obtain⟨us,hu,hp⟩:=AB hp
  obtain⟨vs,hv,hK⟩:=AB hp
  exact⟨_,fun a w hk hw=>by simp[execOp,Cw hk hu,Cw hk hv,Instr.makeFunc],hK⟩
 ·cases hq
 ·cases hq
 ·obtain⟨v,hv,hp⟩:=AB hp
  obtain⟨l,hl,hp⟩:=AB hp
  obtain⟨r,hr,hp⟩:=AB hp
  obtain⟨u,hu,hK⟩:=N9 (P:=P) hp
  refine⟨u,fun a w hk hw=> ?_,hK⟩
  have opt: ∀{o:Option Operand} {x:Option Value},ET ρ o=some x→o.map a.eval=x:=by
   intro o x ho
   cases o with
   |none=>simp[ET]at ho;simp[ho]
   |some y=>
    simp only[ET]at ho
    cases hy:Aa ρ y with
    |none=>simp[hy]at ho
    |some z=>simp[hy]at ho;simp[AN hk hy,ho]
  simp[execOp,AN hk hv,opt hl,opt hr,hu w]
 ·obtain⟨v,hv,hp⟩:=AB hp
  obtain⟨l,hl,hp⟩:=AB hp
  obtain⟨r,hr,hp⟩:=AB hp
  obtain⟨mv,hm,hp⟩:=AB hp
  obtain⟨u,hu,hK⟩:=MV (P:=P) hp
  refine⟨u,fun a w hk hw=> ?_,hK⟩
  have opt: ∀{o:Option Operand} {x:Option Value},ET ρ o=some x→o.map a.eval=x:=by
   intro o x ho
   cases o with
   |none=>simp[ET]at ho;simp[ho]
   |some y=>
    simp only[ET]at ho
    cases hy:Aa ρ y with
    |none=>simp[hy]at ho
    |some z=>simp[hy]at ho;simp[AN hk hy,ho]
  simp[execOp,AN hk hv,opt hl,opt hr,AN hk hm,hu w]
 ·obtain⟨p,hp1,hp⟩:=AB hp
  obtain⟨ad,ha,hp⟩:=AB hp
  obtain⟨f,hf,hp⟩:=AB hp
  obtain⟨hz,hK⟩:=hp
  have:=Cp ha
  subst this
  obtain⟨fs,g,h1,h2,h3,h4⟩:=JV hf
  refine⟨_,fun a w hk hw=> ?_,hK⟩
  have hso:(sizeOf g.type).run P w=.ok f.2.2 w:=Cu (b:=f.2.1) h4
  simp[execOp,Instr.fieldAt,underlying,h1,h2,Instr.sureAddr,AN hk hp1,fieldPlace,hso,hz,h3]
 ·obtain⟨v,hv,hp⟩:=AB hp
  obtain⟨u,hu,hK⟩:=AB hp
  exact⟨u,fun a w hk hw=>by simp[execOp,AN hk hv,Lt hu],hK⟩
 ·obtain⟨v,hv,hp⟩:=AB hp
  obtain⟨i,hi,hp⟩:=AB hp
  obtain⟨u,hu,hK⟩:=Ly (P:=P) hp
  exact⟨u,fun a w hk hw=>by simp[execOp,AN hk hv,AN hk hi,hu w],hK⟩
 ·obtain⟨v,hv,hp⟩:=AB hp
  obtain⟨i,hi,hp⟩:=AB hp
  obtain⟨u,hu,hK⟩:=Lu (P:=P) hp
  exact⟨u,fun a w hk hw=>by simp[execOp,AN hk hv,AN hk hi,hu w],hK⟩
 ·cases hq
 ·cases hq
 ·cases hq
 ·cases hq
 ·cases hq
 ·cases hq
 ·obtain⟨v,hv,hp'⟩:=AB hp
  clear hp
  split at hp'
  ·obtain⟨u,hu,hK⟩:=AB hp'
   exact⟨u,fun a w hk hw=>by simp[execOp,AN hk hv,Instr.extract,hu],hK⟩
  ·exact hp'.elim
 ·rename_i b args ts
  obtain⟨vs,hv,hp'⟩:=AB hp
  clear hp
  split at hp'
  ·rename_i u0 t hts0
   have hts:ts= #[t]:=by apply Array.ext';simpa using hts0
   subst hts
   obtain⟨u,hu,hK⟩:=Hr (P:=P) (ty:=ty) hp'
   refine⟨u,fun a w hk hw=> ?_,hK⟩
   simp[execOp,resolve,invoke,builtin,Cw hk hv,hu w hw]
  all_goals first|cases hq|exact hp'.elim
 ·exact hp.elim
end
section
variable {P:Program} {n:Nat} {all:List Oper} {h:AL} {w0:World}
def Tv(w0:World)(h:AL)(w:World):Prop:=w.heap=h∧Ai w0 w
theorem RM[dd:DefD]{o:Oper}{ρ:Ak}{K:Ak→Prop}{a:Act}{next:Act→Prop}(hs:VB P n o ρ h K)(hk:BO n ρ a)
  (hn: ∀ρ' a',K ρ'→BO n ρ' a'→(∀t,o.dst≠some t→get ρ' t=get ρ t)→next a'):o.quiet P a (Tv w0 h) next:=by
 obtain⟨dst,op,ty,pos,aft,gd⟩:=o
 unfold VB at hs
 split at hs
 ·rename_i f args ts hop
  simp only at hop
  subst hop
  obtain⟨fv,hf,hs'⟩:=AB hs
  clear hs
  obtain⟨vs,hv,hs⟩:=AB hs'
  clear hs'
  unfold Y1 at hs
  split at hs
  ·rename_i g fs cs
   obtain⟨hc,v,hcall,hput⟩:=hs
   obtain⟨ρ',hK,hk',he⟩:=Dq hk hput
   refine⟨v,fun w hw=> ?_,hn ρ' _ hK hk' he⟩
   have hrun:(execOp a.eval ⟨dst,.call ⟨.value f,args,ts⟩,ty,pos,aft,gd⟩).run P w=.ok (.enter g (fs++vs.toArray++cs)) w:=by
    simp only[execOp,resolve,AN hk hf,Deferred.ofValue,Sem.run_bind,Sem.run_pure,Result.andThen_ok,invoke,Cw hk hv]
    exact CF hc
   unfold Oper.quietAt
   rw[hrun]
   refine⟨rfl,(hcall w hw.1).mono fun e w' ⟨⟨h1,h2⟩,h3⟩=>⟨h1,h2,hw.2.trans h3⟩⟩
  ·exact hs.elim
 ·obtain⟨hq,hs⟩:=hs
  obtain⟨v,hv,hput⟩:=KM (n:=n) (dst:=dst) (pos:=pos) (aft:=aft) (gd:=gd) hq hs
  obtain⟨ρ',hK,hk',he⟩:=Dq hk hput
  refine⟨v,fun w hw=> ?_,hn ρ' _ hK hk' he⟩
  unfold Oper.quietAt
  rw[hv a w hk hw.1]
  exact⟨rfl,rfl⟩
theorem MT[dd:DefD]{s j:Nat}{want b:Bool}{C:World→Prop}{Q:Act→Prop}(hj:Bq all j=some s)(hb:b≠want){rest':List Oper}: ∀(l:List Oper) (sk:List Nat) (ρ:Ak) (a:Act),Br all s j want sk l=true→BO n ρ a→
  a.tmps[s]? =some (.bool b)→(∀s'∈sk,a.tmps[s']? =some undef∨a.tmps[s']? =none)→(∀a',BO n (Ck l ρ) a'→a'.tmps[s]? =some (.bool b)→wpQuiet P all.toArray C Q rest' a')→wpQuiet P all.toArray C Q (l++rest') a:=by
 intro l
 induction l with
 |nil=>intro sk ρ a _ hk hs _ hn;exact hn a hk hs
 | cons x l ih=>
  intro sk ρ a h hk hs hsk hn
  unfold Br at h
  split at h
  ·rename_i d j' w' hd hg
   split at h
   ·cases h
   ·rename_i hds
    have hput:BO n ((d,none)::ρ) (a.put x.dst undef):=by rw[hd];exact hk.hide d undef
    have hs':(a.put x.dst undef).tmps[s]? =some (.bool b):=by
     rw[hd];simp only[Act.put,Array.getElem?_setIfInBounds];rw[if_neg hds];exact hs
    have hsk': ∀s'∈d::sk,(a.put x.dst undef).tmps[s']? =some undef∨(a.put x.dst undef).tmps[s']? =none:=by
     intro s' hm
     rw[hd];simp only[Act.put,Array.getElem?_setIfInBounds]
     rcases List.mem_cons.1 hm with rfl|hm
     ·simp only[if_true];split<;>simp
     ·split
      ·split<;>simp
      ·exact hsk s' hm
    have hhid:Ck (x::l) ρ=Ck l ((d,none)::ρ):=by simp[Ck,hd]
    rw[hhid]at hn
    have go:Region.wanted x (yielded all.toArray a.tmps)=false→Br all s j want (d::sk) l=true→wpQuiet P all.toArray C Q (x::l++rest') a:=by
     intro hw hok
     show wpQuiet P all.toArray C Q (x::(l++rest')) a
     unfold wpQuiet
     rw[if_neg (by simp[hw])]
     exact ih (d::sk) _ _ hok hput hs' hsk' hn
    split at h
    ·rename_i hjw
     obtain⟨rfl,rfl⟩:=hjw
     refine go ?_ h
     unfold Region.wanted
     simp only[hg,B9 hj,hs]
     simpa using hb
    ·split at h
     ·rename_i s' hs2
      split at h
      ·rename_i hm
       refine go ?_ h
       unfold Region.wanted
       rcases hsk s' hm with e|e
       ·simp only[hg,B9 hs2,e,undef];rfl
       ·simp only[hg,B9 hs2,e];rfl
      ·cases h
     ·cases h
  ·cases h
theorem V6[dd:DefD]{sp:Bool}: ∀(m:Nat) (cur:Option (Nat×Bool)) (l:List Oper) (ρ:Ak) (K:Ak→Prop),Kt P n sp all h m cur l ρ K→ ∃ρ',K ρ':=by
 intro m
 induction m with
 |zero=>intro cur l ρ K hd;cases hd
 | succ m ih=>
  intro cur l ρ K hd
  have put: ∀{dst:Option Nat} {v:Value} {ρ:Ak} {K:Ak→Prop},Ac n dst v ρ K→ ∃ρ',K ρ':=by
   intro dst v ρ K hv
   cases dst with
   |none=>exact⟨ρ,hv⟩
   |some d=>exact⟨_,hv.2⟩
  cases l with
  |nil=>exact⟨ρ,hd⟩
  | cons o l=>
   unfold Kt at hd
   split at hd
   ·unfold VB at hd
    split at hd
    ·obtain⟨fv,hf,hd'⟩:=AB hd
     clear hd
     obtain⟨vs,hv,hd⟩:=AB hd'
     clear hd'
     unfold Y1 at hd
     split at hd
     ·obtain⟨_,v,_,h1⟩:=hd
      obtain⟨ρ',h1⟩:=put h1
      exact ih _ _ _ _ h1
     ·exact hd.elim
    ·obtain⟨hq,hs⟩:=hd
     obtain⟨v,_,h1⟩:=KM (n:=n) (dst:=none) (pos:= "") (aft:= #[]) (gd:=none) hq hs
     obtain⟨ρ',h1⟩:=put h1
     exact ih _ _ _ _ h1
   ·split at hd
    ·exact hd.elim
    ·rename_i j want hg
     obtain⟨s,hs,hd'⟩:=AB hd
     clear hd
     obtain⟨v,hv,hd⟩:=AB hd'
     clear hd'
     split at hd
     ·rename_i b
      obtain⟨_,hd⟩:=hd
      split at hd
      ·split at hd
       ·obtain⟨ρ1,h1⟩:=ih _ _ _ _ hd
        obtain⟨c,_,h1⟩:=AB h1
        unfold CO at h1
        split at h1
        ·obtain⟨ρ',h1⟩:=put h1
         exact ih _ _ _ _ h1
        ·exact h1.elim
       ·exact hd.elim
      ·by_cases hb:(b==want)=true
       ·obtain⟨ρ1,h1⟩:=ih _ _ _ _ (hd.1 hb)
        exact ih _ _ _ _ h1
       ·exact ih _ _ _ _ (hd.2 (by simpa using hb))
     ·exact hd.elim
set_option maxHeartbeats 1000000 in
theorem R8[dd:DefD]{sp:Bool}{Q:Act→Prop}: ∀(m:Nat) (cur:Option (Nat×Bool)) (rest:List Oper) (ρ:Ak) (K:Ak→Prop) (a:Act) (rest':List Oper),
  Kt P n sp all h m cur rest ρ K→BO n ρ a→Fs all ρ cur rest→
  (∀ρ' a',K ρ'→BO n ρ' a'→YG rest ρ ρ'→wpQuiet P all.toArray (Tv w0 h) Q rest' a')→wpQuiet P all.toArray (Tv w0 h) Q (rest++rest') a:=by
 intro m
 induction m with
 |zero=>intro cur rest ρ K a rest' hd;cases hd
 | succ m ih=>
  intro cur rest ρ K a rest' hd hk hc hn
  cases rest with
  |nil=>exact hn ρ a hd hk (fun t _=>rfl)
  | cons o l=>
   unfold Kt at hd
   split at hd
   ·rename_i hg
    have hw:=EZ hk hc hg
    show wpQuiet P all.toArray (Tv w0 h) Q (o::(l++rest')) a
    unfold wpQuiet
    rw[if_pos hw]
    refine RM hd hk fun ρ' a' h1 h2 h4=> ?_
    refine ih cur l ρ' K a' rest' h1 h2 ?_ fun ρ'' a'' k1 k2 k4=>hn ρ'' a'' k1 k2 fun t ht=> ?_
    ·cases cur with
     |none=>trivial
     |some c=>
      obtain⟨j,want⟩:=c
      obtain⟨s,e1,e2,e3⟩:=hc
      exact⟨s,e1,by rw[h4 s (e3 o (List.mem_cons_self ..)),e2],fun x hx=>e3 x (List.mem_cons_of_mem _ hx)⟩
    ·rw[k4 t (fun x hx=>ht x (List.mem_cons_of_mem _ hx)),h4 t (ht o (List.mem_cons_self ..))]
   ·rename_i hg
    split at hd
    ·exact hd.elim
    ·rename_i j want hgd
     obtain⟨s,hs,hd'⟩:=AB hd
     clear hd
     obtain⟨v,hv,hd⟩:=AB hd'
     clear hd'
     split at hd
     ·rename_i b
      obtain⟨hok,hd⟩:=hd
      have hsp:=F4 cur (o::l)
      generalize hgr:A7 cur (o::l)=g at*
      generalize haf:BQ cur (o::l)=after at*
      have hdst:=KF _ _ hok
      have hgl: ∀x∈g,x∈o::l:=fun x hx=>by rw[←hsp];exact List.mem_append_left _ hx
      have hal: ∀x∈after,x∈o::l:=fun x hx=>by rw[←hsp];exact List.mem_append_right _ hx
      rw[←hsp,List.append_assoc]
      have hcurE: ∀{ρ1:Ak},YG g ρ ρ1→Fs all ρ1 cur after:=by
       intro ρ1 he
       cases cur with
       |none=>trivial
       |some c=>
        obtain⟨j',want'⟩:=c
        obtain⟨s',e1,e2,e3⟩:=hc
        exact⟨s',e1,by rw[he s' (fun x hx=>e3 x (hgl x hx)),e2],fun x hx=>e3 x (hal x hx)⟩
      have hskip: ∀{rest2:List Oper},b≠want→(∀a',BO n (Ck g ρ) a'→a'.tmps[s]? =some (.bool b)→wpQuiet P all.toArray (Tv w0 h) Q rest2 a')→wpQuiet P all.toArray (Tv w0 h) Q (g++rest2) a:=
       fun hb h2=>MT hs hb g [] ρ a hok hk (hk.2.2 s _ hv) (fun s' hs'=>by cases hs') h2
      split at hd
      ·rename_i p after' hpu
       split at hd
       ·rename_i y hy
        have hpin: ∀x,x∈(p::after')→x∈o::l:=fun x hx=>hal x hx
        have fin: ∀(a':Act) (c:Bool),Ac n p.dst (.bool c) (Ck g ρ) (fun ρ''=>Kt P n sp all h m cur after' ρ'' K)→BO n (Ck g ρ) a'→
          wpQuiet P all.toArray (Tv w0 h) Q (after'++rest') (a'.put p.dst (.bool c)):=by
         intro a' c h1 h2
         obtain⟨ρ',h4,h5,h6⟩:=Dq h2 h1
         have he: ∀t,(∀x∈o::l,x.dst≠some t)→get ρ' t=get ρ t:=fun t ht=>by
          rw[h6 t (ht p (hpin p (List.mem_cons_self ..))),ER g ρ (fun x hx=>ht x (hgl x hx))]
         refine ih cur after' ρ' K _ rest' h4 h5 ?_ fun ρ'' a'' k1 k2 k4=>hn ρ'' a'' k1 k2 fun t ht=> ?_
         ·cases cur with
          |none=>trivial
          |some c=>
           obtain⟨j',want'⟩:=c
           obtain⟨s',e1,e2,e3⟩:=hc
           exact⟨s',e1,by rw[he s' (fun x hx=>e3 x hx),e2],fun x hx=>e3 x (hpin x (List.mem_cons_of_mem _ hx))⟩
         ·rw[k4 t (fun x hx=>ht x (hpin x (List.mem_cons_of_mem _ hx))),he t ht]
        have hpw: ∀(ρ1:Ak) (a':Act),BO n ρ1 a'→Fs all ρ1 cur (p::after')→Region.wanted p (yielded all.toArray a'.tmps)=true:=by
         intro ρ1 a' h1 h2
         refine EZ h1 h2 ?_
         have: ∀(l:List Oper),BQ cur l=p::after'→p.guard=cur:=by
          intro l
          induction l with
          |nil=>intro h;simp[BQ]at h
          |cons x l ihl=>
           intro h
           unfold BQ at h
           split at h
           ·rename_i hx;simp at h;rw[←h.1];exact hx
           ·exact ihl h
         exact this _ haf
        have pickQ: ∀(a':Act) (c':Bool),a'.eval (.tmp s)=.bool b→(b=want→a'.eval y=.bool c')→wpQuiet P all.toArray (Tv w0 h) Q (after'++rest') (a'.put p.dst (.bool (C2 want b c')))→p.quiet P a' (Tv w0 h) (wpQuiet P all.toArray (Tv w0 h) Q (after'++rest')):=by
         intro a' c' hcond hyv hnext
         refine⟨.bool (C2 want b c'),fun w _=> ?_,hnext⟩
         have hrun:(execOp a'.eval p).run P w=.ok (.value (.bool (C2 want b c'))) w:=by
          rcases GE hy with⟨e,hop⟩|⟨e,hop⟩
          ·subst e
           cases b with
           |false=>simp[execOp,hop,hcond,hyv rfl,asBool,C2]
           |true=>simp[execOp,hop,asBool,C2,Act.eval];simp[Act.eval]at hcond;simp[hcond]
          ·subst e
           cases b with
           |true=>simp[execOp,hop,hcond,hyv rfl,asBool,C2]
           |false=>simp[execOp,hop,asBool,C2,Act.eval];simp[Act.eval]at hcond;simp[hcond]
         unfold Oper.quietAt
         rw[hrun]
         exact⟨rfl,rfl⟩
        by_cases hb:b=want
        ·refine ih (some (j,want)) g ρ _ a ((p::after')++rest') hd hk ⟨s,hs,by rw[hv,hb],hdst⟩ fun ρ1 a' k1 k2 k4=> ?_
         obtain⟨c,hc1,k1⟩:=AB k1
         unfold CO at k1
         split at k1
         ·rename_i c'
          have hOk:BO n (Ck g ρ) a':=⟨k2.1,k2.2.1,fun t u ht=>by
           obtain⟨h1,h2⟩:=SL _ _ ht
           exact k2.2.2 t u (by rw[k4 t h1];exact h2)⟩
          show wpQuiet P all.toArray (Tv w0 h) Q (p::(after'++rest')) a'
          unfold wpQuiet
          rw[if_pos (hpw ρ1 a' k2 (hcurE k4))]
          exact pickQ a' c' (AN k2 (by simp only[Aa];rw[k4 s hdst];exact hv)) (fun _=>AN k2 hc1) (fin a' _ k1 hOk)
         ·exact k1.elim
        ·obtain⟨ρ1,h1⟩:=V6 m _ g ρ _ hd
         obtain⟨c,hc1,h1⟩:=AB h1
         unfold CO at h1
         split at h1
         ·rename_i c'
          refine hskip hb fun a' h2 h3=> ?_
          show wpQuiet P all.toArray (Tv w0 h) Q (p::(after'++rest')) a'
          unfold wpQuiet
          have hch:Fs all (Ck g ρ) cur (p::after'):=hcurE (fun t ht=>ER g ρ ht)
          rw[if_pos (hpw _ a' h2 hch)]
          have hcond:a'.eval (.tmp s)=.bool b:=by
           simp only[Act.eval];rw[Array.getD_eq_getD_getElem?,h3];rfl
          exact pickQ a' c' hcond (fun e=>absurd e hb) (fin a' _ h1 h2)
         ·exact h1.elim
       ·exact hd.elim
      ·rename_i after _ _ _
       by_cases hb:b=want
       ·subst hb
        refine ih (some (j,b)) g ((s,some (.bool b))::ρ) _ a (after++rest') (hd.1 (by simp)) (hk.again hv) ⟨s,hs,(Cz hv s).trans hv,hdst⟩ fun ρ1 a' k1 k2 k4=> ?_
        replace k4:YG g ρ ρ1:=fun t ht=>(k4 t ht).trans (Cz hv t)
        refine ih cur after ρ1 K a' rest' k1 k2 (hcurE k4) fun ρ'' a'' q1 q2 q4=>hn ρ'' a'' q1 q2 fun t ht=> ?_
        rw[q4 t (fun x hx=>ht x (hal x hx)),k4 t (fun x hx=>ht x (hgl x hx))]
       ·have hbw:(!want)=b:=by cases b<;>cases want<;>simp at hb⊢
        have hd2:=hd.2 (by simpa using hb)
        rw[hbw]at hd2
        refine MT hs hb g [] ((s,some (.bool b))::ρ) a hok (hk.again hv) (hk.2.2 s _ hv) (fun s' hs'=>by cases hs') fun a' h2 h3=> ?_
        have he:YG g ρ (Ck g ((s,some (.bool b))::ρ)):=fun t ht=>(ER g _ ht).trans (Cz hv t)
        refine ih cur after (Ck g ((s,some (.bool b))::ρ)) K a' rest' hd2 h2 (hcurE he) fun ρ'' a'' q1 q2 q4=>hn ρ'' a'' q1 q2 fun t ht=> ?_
        rw[q4 t (fun x hx=>ht x (hal x hx)),he t (fun x hx=>ht x (hgl x hx))]
     ·exact hd.elim
end
theorem GZ.quiet[dd:DefD](sp:Bool){c:Cx}{id:Nat}{l:List Oper}{k:List It}{ρ:Ak}{h:AL}(hm:c.P.follows .mixedOrders=true)(hB:Region.lexB .any l.toArray=true)
  (hd:Kt c.P c.n sp l h 400 none l ρ fun ρ'=>den c k ρ' h): @GZ dd c (.code (.region id l.toArray true)::k) ρ h ():=by
 intro hf b a w hb hn hk hw
 refine .of_wp (Q:=fun e a' w'=>match e with| .normal=>Ch c.P b (k.map It.item) a' w' (fun e w'=>c.R e w'.heap∧Ai w w')| .panic ch=>a'.defers=DefD.ds∧(c.R (.panicked ch) w'.heap∧Ai w w')|_=>False) ?_ ⟨c.fn,by rw[hb];exact hf⟩ (fun e a' w' hq=>hq)
 refine wp_region_quiet (C:=Tv w h) hm hB ⟨hw,rfl,rfl,rfl⟩ ?_
 have:=R8 (w0:=w) (Q:=fun a'=> ∀w',Tv w h w'→Ch c.P b (k.map It.item) a' w' (fun e w'=>c.R e w'.heap∧Ai w w')) 400 none l ρ _ a [] hd hk trivial
  (fun ρ' a' k1 k2 _=>wpQuiet_nil (fun w' hw'=>Cq c _ _ _ _ (Nat.le_refl _) k1 w hf b a' w' hb hn k2 hw'.1 hw'.2))
 simpa using this
end Go.Vm
namespace Go.Vm
section
variable (P:Program) (n:Nat) (sp:Bool) (all:List Oper) (m:Nat) (ρ:Ak) (h:AL) (K:Ak→Prop)
variable (dst:Option Nat) (ty:TypeId) (pos:String) (aft:Array Edge) (gd:Option (Nat×Bool)) (rest:List Oper)
theorem N8:Fc sp []=true:=rfl
theorem MO(op:Op):Fc sp (⟨dst,op,ty,pos,aft,gd⟩::rest)=(CT sp op&&Fc sp rest):=rfl
theorem Xm(x:Operand):CT sp (.move x)=true:=rfl
theorem Q5(x:Operand):CT sp (.assign x)=false:=rfl
theorem Xn(x a b:Operand):CT sp (.pick x a b)=true:=rfl
theorem TR(t:TypeId)(ps:List (Nat×Operand)):CT sp (.build t ps.toArray)= !sp:=rfl
theorem Xl(t:TypeId)(x:Operand):CT sp (.load t x)= !sp:=rfl
theorem ND(x:Operand):CT sp (.nilCheck x)= !sp:=rfl
theorem TQ(op:BinOp)(t:TypeId)(x y:Operand)(t':TypeId):CT sp (.binOp op t x y t')=Ev op:=by cases op<;>rfl
theorem Xo(op:UnOp)(t:TypeId)(x:Operand):CT sp (.unOp op t x)=true:=rfl
theorem H1(t:TypeId)(x:Operand):CT sp (.makeInterface t x)=false:=rfl
theorem MP(t:TypeId)(x:Operand)(i:Nat):CT sp (.fieldAddr t x i)= !sp:=rfl
theorem TT(t:TypeId)(x:Operand)(i:Nat):CT sp (.field t x i)= !sp:=rfl
theorem MQ(t:TypeId)(x i:Operand):CT sp (.indexAddr t x i)=false:=rfl
theorem TU(t:TypeId)(x i:Operand):CT sp (.index t x i)=false:=rfl
theorem PC(x:Operand)(i:Nat):CT sp (.extract x i)=true:=rfl
theorem TV(t:TypeId)(x:Operand)(lo hi:Option Operand):CT sp (.slice t x lo hi none)=false:=rfl
theorem cZ(x:Operand)(t:TypeId):CT sp (.call ⟨.builtin .len,#[x],#[t]⟩)=true:=rfl
def ul(u:Option TypeDesc):Bool:=match u with|some (.int _)=>true|_=>false
theorem jW(k:IntKind):ul (some (.int k))=true:=rfl
theorem PB(s d:TypeId)(x:Operand):CT sp (.convert s d x)=false:=rfl
theorem Xk(f:Operand)(xs:Array Operand)(ts:Array TypeId):CT sp (.call ⟨.value f,xs,ts⟩)=false:=rfl
end
def ut:=An @N8 (An @MO (An @Xm (An @Q5 (An @Xn (An @TR (An @Xl (An @ND (An @TQ (An @Xo (An @H1 (An @MP (An @TT (An @MQ (An @TU (An @PC (An @TV (An @cZ (An @PB (An @Xk @jW)))))))))))))))))))
end Go.Vm
namespace Go.Vm
def KE(P:Program):Op→Bool
 | .load .. =>false
 | .call _=>false
 |op=>Jl P op
def eP(want:Bool)(v:Value)(A B:Prop):Prop:=match v with| .bool b=>KJ (b==want) A B|_=>B
@[congr] theorem ifU_congr {want:Bool} {v v':Value} {A B:Prop} (h:v=v'):eP want v A B=eP want v' A B:=by rw[h]
theorem QR(want b:Bool)(A B:Prop):eP want (.bool b) A B=KJ (b==want) A B:=rfl
theorem Ng(want:Bool)(A B:Prop):eP want undef A B=B:=rfl
end Go.Vm
namespace Go.Vm
structure Grew(h h':AL):Prop where
 le:h.size≤h'.size
 old: ∀k,k<h.size→h'[k]? =h[k]?
theorem Grew.refl(h:AL):Grew h h:=⟨Nat.le_refl _,fun _ _=>rfl⟩
theorem Grew.trans{a b c:AL}(h:Grew a b)(k:Grew b c):Grew a c:=⟨Nat.le_trans h.le k.le,fun i hi=>(k.old i (Nat.lt_of_lt_of_le hi h.le)).trans (h.old i hi)⟩
theorem Grew.push(h:AL)(o:Obj):Grew h (h.push o):=⟨by simp,fun k hk=>by simp[Array.getElem?_push,Nat.ne_of_lt hk]⟩
theorem Grew.pushed{h h':AL}(e:Grew h h')(o:Obj):Grew h (h'.push o):=e.trans (.push h' o)
theorem Grew.set{h h':AL}(e:Grew h h'){k:Nat}(hk:h.size≤k)(o:Obj):Grew h (h'.setIfInBounds k o):=⟨by simpa using e.le,fun i hi=>by
 rw[Array.getElem?_setIfInBounds_ne (by omega)];exact e.old i hi⟩
theorem Grew.get{h h':AL}(e:Grew h h'){k:Nat}{o:Obj}(hk:h[k]? =some o):h'[k]? =some o:=by
 rw[e.old k (Array.getElem?_eq_some_iff.1 hk).1,hk]
theorem EX{h:AL}{k:Nat}{o:Obj}(hk:h[k]? =some o):k<h.size:=(Array.getElem?_eq_some_iff.1 hk).1
theorem below_of_grew{w w':World}(e:Grew w.heap w'.heap)(r:Ai w w'):RowKit.Below w.heap.size w w':=⟨r.1,r.2.1,r.2.2,e.le,e.old⟩
theorem EN{P:Program}{t:TypeId}{s:ByteArray}{h:AL}{K:Value→AL→Prop}(ht:P.underlying t=some .string)
  (hK:K (.pointer (some ⟨h.size,0,none⟩)) (h.push (.stringIter s 0))):CJ P (Instr.range t (.string s)) h K:=by
 intro w hw
 subst hw
 refine⟨_,{w with heap:=w.heap.push (.stringIter s 0)}, ?_,⟨rfl,rfl,rfl⟩,hK⟩
 simp[Instr.range,underlying,ht,newObj,Sem.run,Result.andThen]
theorem DB{P:Program}{ty:TypeId}{s:ByteArray}{h:AL}{K:Value→AL→Prop}{r pos:Nat}(hr:h[r]? =some (.stringIter s pos))
  (hK:if pos<s.size then K (.tuple #[.bool true,.int .i64 pos,.int .i32 (Utf8.decode s pos).1]) (h.setIfInBounds r (.stringIter s (pos+(Utf8.decode s pos).2)))else K (.tuple #[.bool false]) h):CJ P (Instr.next (.pointer (some ⟨r,0,none⟩)) true ty) h K:=by
 intro w hw
 subst hw
 split at hK
 ·rename_i hp
  refine⟨_,{w with heap:=w.heap.setIfInBounds r (.stringIter s (pos+(Utf8.decode s pos).2))}, ?_,⟨rfl,rfl,rfl⟩,hK⟩
  simp only[Instr.next,getObj,setObj,Sem.run_bind,Sem.run,Result.andThen,hr,hp,if_true]
  simp[goInt]
 ·rename_i hp
  refine⟨_,w, ?_,⟨rfl,rfl,rfl⟩,hK⟩
  simp only[Instr.next,getObj,setObj,Sem.run_bind,Sem.run,Result.andThen,hr,hp,if_false]
  simp[]
theorem Od: ∀(ρ:Ak) (t:Nat) (v:Value),get ρ t=some v→(t,some v)∈ρ
 | [],_,_,h=>by cases h
 |(s,u)::ρ,t,v,h=>by
  unfold get at h
  split at h
  ·rename_i e;subst e;subst h;exact List.mem_cons_self ..
  ·exact List.mem_cons_of_mem _ (Od ρ t v h)
def Ah:Ak→Ak→Prop
 | [],_=>True
 |(s,v)::ρ,ρ'=>get ρ' s=v∧Ah ρ ρ'
theorem Mc{ρ':Ak}: ∀{ρ:Ak},Ah ρ ρ'→ ∀p∈ρ,get ρ' p.1=p.2
 | [],_,_,h=>by cases h
 |(s,v)::ρ,hs,p,h=>by
  rcases List.mem_cons.1 h with rfl|h
  ·exact hs.1
  ·exact Mc hs.2 p h
theorem Au.weak[dd:DefD]{c:Cx}{body:Code}{k:List It}{ρ ρ':Ak}{h:AL}(hl: @Au dd c body k ρ h ())(hs:Ah ρ ρ'): @Au dd c body k ρ' h ():=
 fun hf b a w h1 h2 hk hw=>hl hf b a w h1 h2 ⟨hk.1,hk.2.1,fun t v ht=>hk.2.2 t v (Mc hs _ (Od ρ t v ht))⟩ hw
theorem AW{n:Int}(h1: -9223372036854775808≤n)(h2:n<9223372036854775808):IntKind.i64.wrap n=n:=by
 simp only[IntKind.wrap,IntKind.bits,IntKind.signed,Bool.true_and,Nat.reduceSub]
 split<;>rename_i h<;>simp at h<;>omega
theorem OA{n:Int}(h1: -2147483648≤n)(h2:n<2147483648):IntKind.i32.wrap n=n:=by
 simp only[IntKind.wrap,IntKind.bits,IntKind.signed,Bool.true_and,Nat.reduceSub]
 split<;>rename_i h<;>simp at h<;>omega
theorem KY{n:Int}(h1:0≤n)(h2:n<256):IntKind.u8.wrap n=n:=by
 simp only[IntKind.wrap,IntKind.bits,IntKind.signed,Bool.false_and,Bool.false_eq_true,if_false]
 omega
theorem lE{n:Int}(h1:0≤n)(h2:n<18446744073709551616):IntKind.u64.wrap n=n:=by
 simp only[IntKind.wrap,IntKind.bits,IntKind.signed,Bool.false_and,Bool.false_eq_true,if_false]
 omega
theorem jC:(ByteArray.mk #[]).toList=[]:=by rw[ByteArray.toList_eq]
theorem Z7(h:AL)(o:Obj)(k:Nat):(Array.push h o)[k]? =if k=Array.size h then some o else h[k]? :=Array.getElem?_push
theorem iT(h:AL)(i j:Nat)(o:Obj):(Array.setIfInBounds h i o)[j]? =if i=j then(if i<Array.size h then some o else none)else h[j]? :=Array.getElem?_setIfInBounds
theorem tM(h:AL)(o o':Obj)(k:Nat):Array.setIfInBounds (Array.push h o) k o'=if k=Array.size h then Array.push h o' else Array.push (Array.setIfInBounds h k o') o:=by
 apply Array.ext_getElem?
 intro i
 by_cases hk:k=Array.size h
 ·rw[if_pos hk,iT,Z7,Z7]
  simp only[Array.size_push]
  grind
 ·rw[if_neg hk,iT,Z7,Z7]
  simp only[Array.size_push,iT,Array.size_setIfInBounds]
  grind
theorem tN(h:AL)(i:Nat)(o o':Obj):Array.setIfInBounds (Array.setIfInBounds h i o) i o'=Array.setIfInBounds h i o':=by simp
theorem rJ(h:AL)(i:Nat)(o:Obj):Array.size (Array.setIfInBounds h i o)=Array.size h:=by simp
theorem Zn{P:Program}{f:FuncId}{fn:Func}{e:Array Value→Sem Value}{args:Array Value}{h:AL}{Q:Ending→AL→Prop}{v:Value}(hf:P.funcs[f]? =some fn)(hname:(fn.name== "runtime.NumGoroutine")=false)
  (hb:fn.body.isNone=true) (hn:Extern.findNext fn=none) (he:Extern.find fn=some e) (hr: ∀w:World,(e args).run P w=.ok v w) (hQ:Q (.returned v) h):YR P f args h Q:=by
 intro w hw
 subst hw
 refine⟨v,w, ?_,⟨rfl,rfl,rfl⟩,hQ⟩
 rw[run_callFunc_extern hf hname hb hn he,hr]
 rfl
end Go.Vm
namespace Go.Vm
inductive Sh where
 |int (k:IntKind)
 |bool
 |str
 |st (n:Nat) (fs:List (Nat×Nat×Sh))
 |sl (n:Nat) (s:Sh)
mutual
def Jr(P:Program):Sh→TypeId→Bool
 | .int k,t=>match P.underlying t with|some (.int k')=>decide (k'=k)|_=>false
 | .bool,t=>match P.underlying t with|some .bool=>true|_=>false
 | .str,t=>match P.underlying t with|some .string=>true|_=>false
 | .st n l,t=>match P.underlying t with|some (.struct fs)=>decide (P.cellsOf t=n)&&Kn P l fs.toList|_=>false
 | .sl n s,t=>match P.underlying t with|some (.slice e)=>decide (P.cellsOf e=n)&&Jr P s e|_=>false
def Kn(P:Program):List (Nat×Nat×Sh)→List Field→Bool
 | [],[]=>true
 |(o,n,s)::l,f::fs=>decide (f.offset=o)&&(decide (P.cellsOf f.type=n)&&(Jr P s f.type&&Kn P l fs))
 |_,_=>false
end
mutual
def OD(h:AL):Sh→List Value→Prop
 | .int k,cs=> ∃n,cs=[.int k n]∧(Lit.int k n).wf=true
 | .bool,cs=> ∃b,cs=[.bool b]
 | .str,cs=> ∃s:ByteArray,cs=[.string s]∧s.size≤maxLen
 | .st n l,cs=>cs.length=n∧Tx h l cs
 | .sl n s,cs=>cs=[.slice none 0 0]∨ ∃(a:Addr) (len cap:Nat),cs=[.slice (some a) len cap]∧len≤cap∧cap≤maxLen∧
   ∀i,i<len→ ∃es,es.length=n∧(∀j,j<n→HW h ((a.add (i*n)).add j)=es[j]?)∧OD h s es
def Tx(h:AL):List (Nat×Nat×Sh)→List Value→Prop
 | [],_=>True
 |(o,n,s)::l,cs=>OD h s ((cs.drop o).take n)∧Tx h l cs
end
section
variable {H:Type} {enc:TypeId×Value→H} {P:Program} {w:World} {base:Nat} {sp:Nat→Bool} {held:Bool}
mutual
theorem OX(s:Sh)(t:TypeId)(fuel:Nat)(cs:List Value)(x:DataW H×List MemPlace)(hs:Jr P s t=true)(h:DataW.trod enc P w base sp held fuel t cs=some x):OD w.heap s cs:=by
 cases s with
 | int k=>
  simp only[Jr]at hs
  split at hs
  ·rename_i k' ht
   have:k'=k:=by simpa using hs
   subst this
   obtain⟨n,h1,_,h2⟩:=DataW.trod_int ht h
   exact⟨n,h1,h2⟩
  ·cases hs
 | bool=>
  simp only[Jr]at hs
  split at hs
  ·rename_i ht
   obtain⟨b,h1,_⟩:=DataW.trod_bool ht h
   exact⟨b,h1⟩
  ·cases hs
 | str=>
  simp only[Jr]at hs
  split at hs
  ·rename_i ht
   obtain⟨b,h1,_,h2⟩:=DataW.trod_string ht h
   exact⟨b,h1,h2⟩
  ·cases hs
 | st n l=>
  simp only[Jr]at hs
  split at hs
  ·rename_i fs ht
   simp only[Bool.and_eq_true,decide_eq_true_eq]at hs
   obtain⟨xs,m,rfl,_,h1,h2,h3⟩:=DataW.trod_struct ht h
   refine⟨h1.trans hs.1,QF l fs.toList m cs hs.2 fun f hf=> ?_⟩
   obtain⟨i,hi⟩:=List.getElem?_of_mem hf
   have hi':fs[i]? =some f:=by simpa using hi
   have:=h3 i f hi'
   have hlt:i<xs.length:=by rw[h2];exact(Array.getElem?_eq_some_iff.1 hi').1
   exact⟨xs[i],by rw[this,List.getElem?_eq_getElem hlt]⟩
  ·cases hs
 | sl n s=>
  simp only[Jr]at hs
  split at hs
  ·rename_i e ht
   simp only[Bool.and_eq_true,decide_eq_true_eq]at hs
   obtain⟨hn,hs⟩:=hs
   rcases DataW.trod_slice ht h with⟨h0,_⟩|⟨a,len,cap,elems,rest,m,rfl,hcs,_,_,h1,h2,h3,h4,_⟩
   ·exact .inl h0
   ·refine .inr ⟨a,len,cap,hcs,h1,h2,fun i hi=> ?_⟩
    have h5:=h4 i hi
    rw[hn]at h5
    have hlt:i<elems.length:=by omega
    rw[List.getElem?_eq_getElem hlt,Option.bind_eq_some_iff]at h5
    obtain⟨es,h6,h7⟩:=h5
    obtain⟨_,h8,h9⟩:=World.cells?_some h6
    exact⟨es,h8,fun j hj=>by rw[←h9 j hj];rfl,OX s e m es _ hs h7⟩
  ·cases hs
theorem QF(l:List (Nat×Nat×Sh))(fs:List Field)(m:Nat)(cs:List Value)(hs:Kn P l fs=true)
  (h: ∀f∈fs,∃x,DataW.trod enc P w base sp held m f.type ((cs.drop f.offset).take (P.cellsOf f.type))=some x):Tx w.heap l cs:=by
 cases l with
 |nil=>trivial
 | cons p l=>
  obtain⟨o,n,s⟩:=p
  cases fs with
  |nil=>simp[Kn]at hs
  |cons f fs=>
   simp only[Kn,Bool.and_eq_true,decide_eq_true_eq]at hs
   obtain⟨rfl,rfl,h1,h2⟩:=hs
   obtain⟨x,hx⟩:=h f (List.mem_cons_self ..)
   exact⟨OX s f.type m _ x h1 hx,QF l fs m cs h2 fun g hg=>h g (List.mem_cons_of_mem _ hg)⟩
end
theorem WN(s:Sh){t:TypeId}{v:Value}{d:DataW H}{ps:List MemPlace}(hs:Jr P s t=true)(h:DataW.Trod enc P w base sp held t v d ps):OD w.heap s v.cells.toList:=
 let ⟨fuel,hf⟩:=h
 OX s t fuel _ _ hs hf
end
end Go.Vm
namespace Go.Vm
def Du(h:AL)(base:Nat)(e:TypeId)(size:Nat)(v:Value)(n:Nat)(xs:List Value):Prop:=
 World.ownsRow {(default:World)with heap:=h} base e size v n xs
theorem MC{w:World}{base:Nat}{e:TypeId}{size:Nat}{v:Value}{n:Nat}{xs:List Value}:Du w.heap base e size v n xs↔w.ownsRow base e size v n xs:=Iff.rfl
structure GrewB(h h':AL)(row:Option Nat):Prop where
 le:h.size≤h'.size
 old: ∀k,k<h.size→some k≠row→h'[k]? =h[k]?
theorem N3{P:Program}{t ty e:TypeId}{size bytes:Nat}{z:Value}{h:AL}{K:Value→AL→Prop}{base n m c:Nat}{v:Value}{xs news:List Value}{a:Addr}
  (hs:MW P t=some (e,size,bytes)) (hz:JA P e=some z) (hzs:z.cells.size=size) (hsz:0<size)
  (hown:Du h base e size v n xs) (hl:news.length=m*size) (hnews: ∀j u,news[j]? =some u→HW h (a.add j)=some u) (h1: ∀u∈news,u.oneCell'=true)
  (h63:n+m≤maxLen) (hbytes:(n+m)*bytes≤140737488355328) (hbase:base≤h.size)
  (hK: ∀v' h',Du h' base e size v' (n+m) (xs++news)→GrewB h h' v.ownBlock→(v'=.slice none 0 0↔v=.slice none 0 0∧m=0)→K v' h'):
  CJ P (Builtin.append_ #[t,t] ty #[v,.slice (some a) m c]) h K:=by
 intro w hw
 subst hw
 obtain⟨ht,i,hi,e1,e2⟩:=EC hs
 have hz':i.zero=some z:=by unfold JA at hz;rw[hi]at hz;exact hz
 obtain⟨v',w',hr,h2,h3,h4⟩:=run_append_own w base t ty e i z size bytes ht hi hz' e1 e2 hzs hsz v n xs (MC.1 hown) a m c news hl hnews h1 h63 hbytes hbase
 exact⟨v',w',hr,⟨h3.os,h3.tape,h3.output⟩,hK v' w'.heap (MC.2 h2) ⟨h3.size,fun k hk hne=>h3.block k hk hne⟩ h4⟩
theorem Du.nil(h:AL)(base:Nat)(e:TypeId)(size:Nat):Du h base e size (.slice none 0 0) 0 []:=World.ownsRow_nil _ base e size
theorem Du.out{h:AL}{base:Nat}{e:TypeId}{size:Nat}{v:Value}{n:Nat}{xs:List Value}(o:Du h base e size v n xs):
  xs.length=n*size∧((v=.slice none 0 0∧n=0)∨ ∃g cap cur,v=.slice (some ⟨g,0,none⟩) n cap∧base≤g∧h[g]? =some (.cells cur e)∧n≤cap∧cap≤maxLen∧cur.size=cap*size∧cur.toList.take (n*size)=xs):=o
theorem Du.of{h:AL}{base:Nat}{e:TypeId}{size g n cap:Nat}{cur:Array Value}{xs:List Value}(hb:base≤g)(hg:h[g]? =some (.cells cur e))(h1:n≤cap)(h2:cap≤maxLen)(h3:cur.size=cap*size)(h4:cur.toList.take (n*size)=xs)(h5:xs.length=n*size):
  Du h base e size (.slice (some ⟨g,0,none⟩) n cap) n xs:=⟨h5,.inr ⟨g,cap,cur,rfl,hb,hg,h1,h2,h3,h4⟩⟩
theorem Du.row{h:AL}{base:Nat}{e:TypeId}{size:Nat}{v:Value}{n:Nat}{xs:List Value}(o:Du h base e size v n xs): ∀k,v.ownBlock=some k→base≤k:=fun k hk=>(World.ownsRow.lt o k hk).1
theorem GrewB.grew{h0 h h':AL}{row:Option Nat}(g:Grew h0 h)(b:GrewB h h' row)(hr: ∀k,row=some k→h0.size≤k):Grew h0 h':=
 ⟨Nat.le_trans g.le b.le,fun k hk=>by
  rw[b.old k (Nat.lt_of_lt_of_le hk g.le) (fun e=>by have:=hr k e.symm;omega)]
  exact g.old k hk⟩
theorem Du.grew{h h':AL}{base:Nat}{e:TypeId}{size:Nat}{v:Value}{n:Nat}{xs:List Value}(o:Du h base e size v n xs)(g:Grew h h'):Du h' base e size v n xs:=by
 rcases o with⟨h1,h2|⟨r,cap,cur,h3,h4,h5,h6⟩⟩
 ·exact⟨h1,.inl h2⟩
 ·exact⟨h1,.inr ⟨r,cap,cur,h3,h4,g.get h5,h6⟩⟩
theorem Du.mono{h:AL}{base base':Nat}{e:TypeId}{size:Nat}{v:Value}{n:Nat}{xs:List Value}(o:Du h base e size v n xs)(hb:base'≤base):Du h base' e size v n xs:=by
 rcases o with⟨h1,h2|⟨r,cap,cur,h3,h4,h5⟩⟩
 ·exact⟨h1,.inl h2⟩
 ·exact⟨h1,.inr ⟨r,cap,cur,h3,Nat.le_trans hb h4,h5⟩⟩
theorem Wd(h:AL)(xs:List Value)(e:TypeId)(fr:Nat×Nat): ∀(j:Nat) (u:Value),xs[j]? =some u→HW (h.push (.cells xs.toArray e fr)) (Addr.add ⟨h.size,0,none⟩ j)=some u:=by
 intro j u hj
 rw[Eb]
 simp[HW,hj]
theorem Uf(h:AL)(b:Nat)(hb:b=h.size)(xs:List Value)(e:TypeId)(fr:Nat×Nat): ∀(j:Nat) (u:Value),xs[j]? =some u→HW (h.push (.cells xs.toArray e fr)) (Addr.add ⟨b,0,none⟩ j)=some u:=by
 subst hb
 exact Wd h xs e fr
theorem Du.slice{h:AL}{base:Nat}{e:TypeId}{size:Nat}{v:Value}{n:Nat}{xs:List Value}(o:Du h base e size v n xs): ∃p cap,v=.slice p n cap:=by
 rcases o with⟨h1,⟨rfl,rfl⟩|⟨r,cap,cur,rfl,h4⟩⟩
 ·exact⟨_,_,rfl⟩
 ·exact⟨_,_,rfl⟩
theorem Du.read{h:AL}{base:Nat}{e:TypeId}{size:Nat}{v:Value}{n:Nat}{xs:List Value}(o:Du h base e size v n xs)(hn:0<n):
  ∃g cap cur,v=.slice (some ⟨g,0,none⟩) n cap∧base≤g∧h[g]? =some (.cells cur e)∧ ∀i,i<n→DW (some (.cells cur e)) (i*size) size=some ((xs.drop (i*size)).take size).toArray:=by
 obtain⟨h1,h2⟩:=o.out
 rcases h2 with⟨_,h3⟩|⟨g,cap,cur,rfl,h3,h4,h5,h6,h7,h8⟩
 ·omega
 ·refine⟨g,cap,cur,rfl,h3,h4,fun i hi=> ?_⟩
  have e1:i*size+size≤n*size:=by rw[←Nat.succ_mul];exact Nat.mul_le_mul_right _ hi
  have e2:n*size≤cap*size:=Nat.mul_le_mul_right _ h5
  rw[B7,if_pos (by omega)]
  congr 1
  apply Array.ext'
  simp only[Array.toList_extract]
  rw[←h8]
  simp only[List.extract_eq_take_drop,List.drop_take,List.take_take]
  congr 1
  omega
theorem OZ{α β:Type}(f:α→List β)(sz:Nat)(hf: ∀x,(f x).length=sz): ∀(l:List α) (i:Nat) (x:α),l[i]? =some x→((l.flatMap f).drop (i*sz)).take sz=f x
 | [],i,x,h=>by simp at h
 |y::l,0,x,h=>by
  simp only[List.getElem?_cons_zero,Option.some.injEq]at h
  subst h
  simp[List.take_left' (hf y)]
 |y::l,i+1,x,h=>by
  have:=OZ f sz hf l i x (by simpa using h)
  rw[List.flatMap_cons,Nat.succ_mul,Nat.add_comm,←List.drop_drop,List.drop_left' (hf y)]
  exact this
theorem Gv{α β:Type}(f:α→List β)(sz:Nat)(hf: ∀x,(f x).length=sz): ∀(l:List α),(l.flatMap f).length=l.length*sz
 | []=>by simp
 |y::l=>by simp[Gv f sz hf l,hf,Nat.succ_mul,Nat.add_comm]
theorem ug{b n:Nat}(h:b<n):((b=n)=False)∧((n=b)=False)∧((b<n)=True)∧((b=n+1)=False)∧((n+1=b)=False)∧((b<n+1)=True)∧((b=n+1+1)=False)∧((n+1+1=b)=False)∧((b<n+1+1)=True)∧((b=n+1+1+1)=False)∧((n+1+1+1=b)=False)∧((b<n+1+1+1)=True)∧((b=n+1+1+1+1)=False)∧((n+1+1+1+1=b)=False)∧((b<n+1+1+1+1)=True)∧((b=n+1+1+1+1+1)=False)∧((n+1+1+1+1+1=b)=False)∧((b<n+1+1+1+1+1)=True)∧((b=n+1+1+1+1+1+1)=False)∧((n+1+1+1+1+1+1=b)=False)∧((b<n+1+1+1+1+1+1)=True)∧((b=n+1+1+1+1+1+1+1)=False)∧((n+1+1+1+1+1+1+1=b)=False)∧((b<n+1+1+1+1+1+1+1)=True):=⟨eq_false (by omega),eq_false (by omega),eq_true (by omega),eq_false (by omega),eq_false (by omega),eq_true (by omega),eq_false (by omega),eq_false (by omega),eq_true (by omega),eq_false (by omega),eq_false (by omega),eq_true (by omega),eq_false (by omega),eq_false (by omega),eq_true (by omega),eq_false (by omega),eq_false (by omega),eq_true (by omega),eq_false (by omega),eq_false (by omega),eq_true (by omega),eq_false (by omega),eq_false (by omega),eq_true (by omega)⟩
theorem tO(a:Nat):(a=a+1+1)=False:=by exact eq_false (by omega)
theorem tY(a:Nat):(a+1+1=a)=False:=by exact eq_false (by omega)
theorem tm(a:Nat):(a<a+1+1)=True:=by exact eq_true (by omega)
theorem tQ(a:Nat):(a=a+1+1+1)=False:=by exact eq_false (by omega)
theorem tZ(a:Nat):(a+1+1+1=a)=False:=by exact eq_false (by omega)
theorem tp(a:Nat):(a<a+1+1+1)=True:=by exact eq_true (by omega)
theorem tR(a:Nat):(a=a+1+1+1+1)=False:=by exact eq_false (by omega)
theorem tb(a:Nat):(a+1+1+1+1=a)=False:=by exact eq_false (by omega)
theorem tq(a:Nat):(a<a+1+1+1+1)=True:=by exact eq_true (by omega)
theorem tS(a:Nat):(a=a+1+1+1+1+1)=False:=by exact eq_false (by omega)
theorem td(a:Nat):(a+1+1+1+1+1=a)=False:=by exact eq_false (by omega)
theorem tr(a:Nat):(a<a+1+1+1+1+1)=True:=by exact eq_true (by omega)
theorem tT(a:Nat):(a=a+1+1+1+1+1+1)=False:=by exact eq_false (by omega)
theorem tg(a:Nat):(a+1+1+1+1+1+1=a)=False:=by exact eq_false (by omega)
theorem tu(a:Nat):(a<a+1+1+1+1+1+1)=True:=by exact eq_true (by omega)
theorem tU(a:Nat):(a=a+1+1+1+1+1+1+1)=False:=by exact eq_false (by omega)
theorem th(a:Nat):(a+1+1+1+1+1+1+1=a)=False:=by exact eq_false (by omega)
theorem tw(a:Nat):(a<a+1+1+1+1+1+1+1)=True:=by exact eq_true (by omega)
theorem tV(a:Nat):(a=a+1+1+1+1+1+1+1+1)=False:=by exact eq_false (by omega)
theorem tj(a:Nat):(a+1+1+1+1+1+1+1+1=a)=False:=by exact eq_false (by omega)
theorem tz(a:Nat):(a<a+1+1+1+1+1+1+1+1)=True:=by exact eq_true (by omega)
theorem tW(a:Nat):(a=a+1+1+1+1+1+1+1+1+1)=False:=by exact eq_false (by omega)
theorem tk(a:Nat):(a+1+1+1+1+1+1+1+1+1=a)=False:=by exact eq_false (by omega)
theorem t7(a:Nat):(a<a+1+1+1+1+1+1+1+1+1)=True:=by exact eq_true (by omega)
theorem rR(a:Nat):(a=a+1+1+1+1+1+1+1+1+1+1)=False:=by exact eq_false (by omega)
theorem rS(a:Nat):(a+1+1+1+1+1+1+1+1+1+1=a)=False:=by exact eq_false (by omega)
theorem rT(a:Nat):(a<a+1+1+1+1+1+1+1+1+1+1)=True:=by exact eq_true (by omega)
def uq:=An @tO (An @tY (An @tm (An @tQ (An @tZ (An @tp (An @tR (An @tb (An @tq (An @tS (An @td (An @tr (An @tT (An @tg (An @tu (An @tU (An @th (An @tw (An @tV (An @tj (An @tz (An @tW (An @tk (An @t7 (An @rR (An @rS @rT)))))))))))))))))))))))))
def rx:=An @List.append_eq.{0} (An @uq (An @Nat.zero_mul (An @List.toList_toArray.{0} (An @Option.some.injEq.{0} (An @Prod.mk.injEq.{0,0} (An @Bool.false_eq_true (An @Bool.true_eq_false (An @and_self (An @and_true (An @true_and (An @and_false (An @false_and (An @or_false (An @or_true (An @false_or (An @true_or (An @Bool.and_self (An @Bool.and_true (An @Bool.true_and (An @Bool.false_and (An @Bool.and_false (An @Bool.false_or (An @Bool.or_false (An @Bool.true_or (An @Bool.or_true (An @Bool.not_true (An @Bool.not_false (An @not_false_eq_true (An @not_true_eq_false (An @ne_eq.{1} (An @decide_true (An @decide_false (An @decide_eq_true_eq (An @List.cons_append.{0} (An @List.nil_append.{0} (An @List.length_cons.{0} (An @List.length_nil.{0} (An @List.size_toArray.{0} (An @List.setIfInBounds_toArray.{0} (An @List.set_cons_zero.{0} (An @List.set_cons_succ.{0} (An @List.getElem?_toArray.{0} (An @List.getElem?_cons_zero.{0} (An @List.getElem?_cons_succ.{0} (An @List.extract_toArray.{0} (An @List.extract_eq_take_drop.{0} (An @List.drop_zero.{0} (An @List.drop_succ_cons.{0} (An @List.drop_nil.{0} (An @List.take_zero.{0} (An @List.take_succ_cons.{0} (An @List.take_nil.{0} (An @Nat.zero_add (An @Nat.add_zero (An @Array.size_push.{0} (An @Int.natCast_nonneg (An @Int.toNat_natCast (An @Int.cast_ofNat_Int (An @Option.map_some.{0,0} (An @Option.map_none.{0,0} (An @Int.le_refl (An @Int.toNat_zero (An @beq_false (An @beq_true (An @bne_self_eq_false.{0} (An @beq_self_eq_true.{0} (An @Bool.not_eq_false' (An @beq_eq_false_iff_ne.{0} (An @Int.lt_irrefl (An @Nat.lt_irrefl (An @Z7 (An @iT (An @tM (An @tN (An @rJ (An @Nat.left_eq_add (An @Nat.add_eq_left (An @Nat.add_right_cancel_iff (An @Nat.add_left_cancel_iff (An @Nat.lt_add_one (An @Nat.succ_ne_self (An @Nat.one_ne_zero (An @jC (An @Option.isNone_some.{0} (An @Option.isNone_none.{0} (An @Option.isSome_some.{0} (An @Option.isSome_none.{0} (An @Bool.not_eq_true' (An @decide_eq_false_iff_not (An @Bool.or_eq_true (An @Bool.and_eq_true (An @beq_iff_eq.{0} @bne_iff_ne.{0}))))))))))))))))))))))))))))))))))))))))))))))))))))))))))))))))))))))))))))))))))))))))))))
end Go.Vm
namespace Go.Vm
abbrev HN:=List (ByteArray×Value)
def Hg(es:List MapEntry)(m:HN):Prop:=es.map (fun e=>(e.key,e.val))=m.map fun p=>(Value.string p.1,p.2)
def DK(es:Array MapEntry)(m:HN):Prop:=Hg es.toList m
def GN:HN→ByteArray→Option (Nat×Value)
 | [],_=>none
 |(k,v)::l,s=>if s=k then some (0,v)else(GN l s).map fun p=>(p.1+1,p.2)
def EO(m:HN)(s:ByteArray):Option Value:=(GN m s).map (·.2)
def K5(m:HN)(s:ByteArray)(v:Value):HN:=match GN m s with|some p=>m.set p.1 (s,v)|none=>m++[(s,v)]
theorem GF(s:ByteArray): ∀(l:List MapEntry) (m:HN) (i:Nat),Hg l m→Instr.findNow .string (.string s) l i=some ((GN m s).map fun p=>(i+p.1,p.2))
 | [],[],_,_=>rfl
 | [],p::m,_,h=>by simp[Hg]at h
 |e::l,[],_,h=>by simp[Hg]at h
 | e::l,(k,v)::m,i,h=>by
  simp only[Hg,List.map_cons,List.cons.injEq,Prod.mk.injEq]at h
  obtain⟨⟨h1,h2⟩,h3⟩:=h
  have ih:=GF s l m (i+1) h3
  obtain⟨r,hr,hiff⟩:=MapKept.sameNow_of_keys (d:=.string) (a:=.string s) (b:=.string k) trivial trivial
  simp only[Instr.findNow,h1,hr,GN]
  by_cases hk:s=k
  ·obtain rfl:r=true:=hiff.2 (by rw[hk])
   simp[h2,hk]
  ·have:r=false:=by
    cases r with
    |false=>rfl
    |true=>exact absurd (hiff.1 rfl) (by simpa using hk)
   subst this
   simp only[ih,hk,if_false]
   cases GN m s with
   |none=>rfl
   |some p=>simp;omega
theorem Wt{m:HN}{s:ByteArray}{j:Nat}{v:Value}:GN m s=some (j,v)→m[j]? =some (s,v):=by
 induction m generalizing j with
 |nil=>intro h;simp[GN]at h
 | cons p m ih=>
  obtain⟨k,w⟩:=p
  intro h
  simp only[GN]at h
  split at h
  ·rename_i e
   simp only[Option.some.injEq,Prod.mk.injEq]at h
   obtain⟨rfl,rfl⟩:=h
   rw[e]
   rfl
  ·cases hp:GN m s with
   |none=>rw[hp]at h;cases h
   |some q=>
    rw[hp]at h
    simp only[Option.map_some,Option.some.injEq,Prod.mk.injEq]at h
    obtain⟨rfl,rfl⟩:=h
    simpa using ih (j:=q.1) (by rw[hp])
theorem Wb{es:Array MapEntry}{m:HN}(h:DK es m){j:Nat}{s:ByteArray}{v:Value}(hj:m[j]? =some (s,v)): ∃e,es[j]? =some e∧e.key=.string s∧e.val=v:=by
 have h1:(es.toList.map fun e=>(e.key,e.val))[j]? =some (Value.string s,v):=by rw[h];simp[hj]
 rw[List.getElem?_map]at h1
 cases he:es.toList[j]? with
 |none=>rw[he]at h1;cases h1
 |some e=>
  rw[he]at h1
  simp only[Option.map_some,Option.some.injEq,Prod.mk.injEq]at h1
  exact⟨e,by simpa using he,h1.1,h1.2⟩
theorem kT{P:Program}{t:TypeId}{z:Value}{w:World}(hz:JA P t=some z):(zeroValue t).run P w=.ok z w:=by
 unfold JA at hz
 cases hi:P.info? t with
 |none=>simp[hi]at hz
 |some i=>simp[hi]at hz;simp[zeroValue,typeInfo,hi,hz]
section
variable {P:Program} {t kt et:TypeId} {r cl:Nat} {es:Array MapEntry} {m:HN} {s:ByteArray} {h:AL} {K:Value→AL→Prop}
theorem XY{v:Value}(ht:P.underlying t=some (.map kt et))(hk:P.underlying kt=some .string)(hr:h[r]? =some (.map es cl))(hm:DK es m)
  (hK: ∀es' cl',DK es' (K5 m s v)→K undef (h.setIfInBounds r (.map es' cl'))):CJ P (do Instr.mapUpdate t (.map (some r)) (.string s) v;Pure.pure undef) h K:=by
 intro w hw
 subst hw
 have hc:(Instr.checkKey false 10000 kt (.string s)).run P w=.ok () w:=MapKept.run_checkKey (k:=.string s) hk (by simp[MapKept.IsKey]) false 9999
 have hf:=MapKept.run_findKey (w:=w) hk (GF s es.toList m 0 hm)
 cases hp:GN m s with
 | none=>
  refine⟨undef,{w with heap:=w.heap.setIfInBounds r (.map (es.push {key:=.string s,val:=v,born:=cl}) (cl+1))}, ?_,⟨rfl,rfl,rfl⟩,hK _ _ ?_⟩
  ·simp[Instr.mapUpdate,run_underlying ht,MapKept.run_getObj_map hr,hc,hf,hp,MapKept.run_setObj_map _ hr,Result.andThen]
  ·unfold DK Hg at*
   simp[K5,hp,hm]
 | some p=>
  obtain⟨j,u⟩:=p
  have hj:=Wt hp
  obtain⟨e,he,he1,he2⟩:=Wb hm hj
  have hsb:Instr.sameBits 10000 (.string s) (.string s)=true:=by simp[Instr.sameBits,MapKept.bytes_beq]
  refine⟨undef,{w with heap:=w.heap.setIfInBounds r (.map (es.modify j fun e=>{e with key:=.string s,val:=v}) cl)}, ?_,⟨rfl,rfl,rfl⟩,hK _ _ ?_⟩
  ·simp[Instr.mapUpdate,run_underlying ht,MapKept.run_getObj_map hr,hc,hf,hp,MapKept.run_setObj_map _ hr,Result.andThen,he,he1,Instr.keyThatStays,hsb]
  ·unfold DK Hg at*
   simp only[K5,hp]
   apply List.ext_getElem?
   intro i
   have hmi:(es.toList.map fun e=>(e.key,e.val))[i]? =(m.map fun p=>(Value.string p.1,p.2))[i]? :=by rw[hm]
   simp only[List.getElem?_map]at hmi⊢
   rw[List.getElem?_set]
   simp only[Array.getElem?_toList,Array.getElem?_modify]at hmi⊢
   by_cases hij:j=i
   ·subst hij
    have hlt:j<m.length:=by have:=(List.getElem?_eq_some_iff.1 hj).1;exact this
    simp[he,hlt]
   ·simp[hij,hmi]
end
theorem DK.nil:DK #[] []:=rfl
end Go.Vm
