/-
The evaluator is sound: what it computes of a function's body holds of every call of the function in the model.
Conditions: none. Generic: it speaks of no program.
-/
import Derived.Test.YtfphceknmgadgaaGreatDoorVmDef
import Derived.LaidEql
set_option linter.unusedSimpArgs false
set_option linter.unusedVariables false
namespace Go.Vm
theorem BV.refl(w:World):BV w w:=⟨rfl,rfl,rfl⟩
theorem BV.trans{a b c:World}(h:BV a b)(k:BV b c):BV a c:=⟨k.1.trans h.1,k.2.1.trans h.2.1,k.2.2.trans h.2.2⟩
theorem Ac[dd:DefD]{n:Nat}{ρ:Ba}{a:Act}(hk:CV n ρ a){x:Operand}{v:Value}(h:BE ρ x=some v):a.eval x=v:=by
 cases x with
 |tmp t=>have:=hk.2.2 t v h;simp only[Act.eval];rw[Array.getD_eq_getD_getElem?,this];rfl
 |const u=>simpa[BE,Act.eval]using h
 |global g=>simpa[BE,Act.eval]using h
 |func f=>simpa[BE,Act.eval]using h
theorem Rq[dd:DefD]{n:Nat}{ρ:Ba}{a:Act}(hk:CV n ρ a): ∀{l:List Operand} {vs:List Value},GA ρ l=some vs→l.map a.eval=vs
 | [],vs,h=>by simp[GA]at h;simp[h]
 | x::l,vs,h=>by
  simp only[GA]at h
  cases hx:BE ρ x with
  |none=>simp[hx,Dy]at h
  | some v=>cases hl:GA ρ l with
   |none=>simp[hx,hl,Dy]at h
   |some us=>
    simp[hx,hl,Dy]at h
    subst h
    simp[Ac hk hx,Rq hk hl]
theorem Hn[dd:DefD]{n:Nat}{ρ:Ba}{a:Act}(hk:CV n ρ a): ∀{l:List (Nat×Operand)} {vs:List (Nat×Value)},AW ρ l=some vs→l.map (fun p=>(p.1,a.eval p.2))=vs
 | [],vs,h=>by simp[AW]at h;simp[h]
 | (i,x)::l,vs,h=>by
  simp only[AW]at h
  cases hx:BE ρ x with
  |none=>simp[hx,Om]at h
  | some v=>cases hl:AW ρ l with
   |none=>simp[hx,hl,Om]at h
   |some us=>
    simp[hx,hl,Om]at h
    subst h
    simp[Ac hk hx,Hn hk hl]
theorem CV.put[dd:DefD]{n:Nat}{ρ:Ba}{a:Act}(hk:CV n ρ a){d:Nat}(hd:d<n)(v:Value):CV n ((d,some v)::ρ) (a.put (some d) v):=by
 refine⟨hk.1,by simp[Act.put,hk.2.1],fun t u h=> ?_⟩
 simp only[get]at h
 simp only[Act.put,Array.getElem?_setIfInBounds]
 split at h
 ·rename_i e;subst e;cases h;simp[hk.2.1,hd]
 ·rename_i e;rw[if_neg e];exact hk.2.2 t u h
theorem Dc{ρ:Ba}{s:Nat}{v:Value}(h:get ρ s=some v)(t:Nat):get ((s,some v)::ρ) t=get ρ t:=by
 simp only[get]
 split
 ·rename_i e;subst e;exact h.symm
 ·rfl
theorem CV.again[dd:DefD]{n:Nat}{ρ:Ba}{a:Act}(hk:CV n ρ a){s:Nat}{v:Value}(h:get ρ s=some v):CV n ((s,some v)::ρ) a:=
 ⟨hk.1,hk.2.1,fun t u ht=>hk.2.2 t u (by rw[←Dc h t];exact ht)⟩
theorem CV.hide[dd:DefD]{n:Nat}{ρ:Ba}{a:Act}(hk:CV n ρ a)(d:Nat)(v:Value):CV n ((d,none)::ρ) (a.put (some d) v):=by
 refine⟨hk.1,by simp[Act.put,hk.2.1],fun t u h=> ?_⟩
 simp only[get]at h
 simp only[Act.put,Array.getElem?_setIfInBounds]
 split at h
 ·cases h
 ·rename_i e;rw[if_neg e];exact hk.2.2 t u h
theorem AB{α:Type}{o:Option α}{K:α→Prop}(h:Ay o K): ∃v,o=some v∧K v:=by
 cases o with
 |none=>exact h.elim
 |some v=>exact⟨v,rfl,h⟩
def fS(P:Program)(o:Oper)(a:Act)(w:World)(K:Value→AY→Prop):Prop:=
 ∃v w',((execOp a.eval o).run P w=.ok (.value v) w'∨((execOp a.eval o).run P w=.ok .skip w'∧v=undef))∧BV w w'∧K v w'.heap
section
variable {P:Program} {w:World} {K:Value→Prop}
theorem aS{o:Oper}{a:Act}{K:Value→AY→Prop}{s:Sem Value}(he:execOp a.eval o=(do Pure.pure (Next.value (←s))))(h:DA P s w.heap K):fS P o a w K:=by
 obtain⟨v,w',hr,hre,hk⟩:=h w rfl
 exact⟨v,w',.inl (by rw[he];simp[hr]),hre,hk⟩
theorem DA.pure_{s:Sem Value}{h:AY}{K:Value→AY→Prop}(hs: ∀w:World,w.heap=h→ ∃v,s.run P w=.ok v w∧K v h):DA P s h K:=fun w hw=>
 let ⟨v,hr,hk⟩:=hs w hw
 ⟨v,w,hr,BV.refl w,by rw[hw];exact hk⟩
theorem DV{t:TypeId}{b:Bool}{n:Nat}(h:Cw P t=some (b,n)):(sizeOf t).run P w=.ok n w:=by
 unfold Cw at h
 simp only[sizeOf,typeInfo]
 cases hi:P.info? t with
 |none=>simp[hi]at h
 |some i=>
  simp only[hi]at h
  simp[hi]
  split at h<;>simp_all
theorem Eh{t:TypeId}{b:Bool}{n:Nat}(h:Cw P t=some (b,n)):(isAgg t).run P w=.ok b w:=by
 unfold Cw at h
 simp only[isAgg,underlying]
 split at h
 ·rename_i h1 h2;simp at h;simp[h2,h.1]
 ·rename_i h1 h2;simp at h;simp[h2,h.1]
 ·rename_i i d h1 h2 h3 h4
  simp at h
  simp only[Sem.run_bind,run_program,Result.andThen_ok,h4]
  cases d<;>simp_all
 ·cases h
theorem DU{t:TypeId}{cs:Array Value}{off:Nat}{v:Value}(h:FM P t cs off=some v):(part t cs off).run P w=.ok v w:=by
 unfold FM at h
 split at h
 ·rename_i n hs
  simp at h;subst h
  simp[part,Eh hs,DV hs]
 ·rename_i n hs
  simp[part,Eh hs,h]
 ·cases h
theorem Te{w:World}{a:Addr}:w.cell? a=G9 w.heap a:=rfl
theorem NG{h:AY}{a:Addr}{n:Nat}{c:Array Value}(hw:w.heap=h)(hr:FR h a n=some c):(loadCells a n).run P w=.ok c w:=by
 unfold FR at hr
 split at hr
 ·rename_i cs e fr hb
  split at hr
  ·rename_i hc
   simp at hr
   subst hr
   obtain⟨hs,hn⟩:=hc
   have:=run_loadCells_list (P:=P) w a (cs.extract a.off (a.off+n)).toList (by
    intro j v hj
    obtain⟨b,o,s⟩:=a
    simp only at hs hn hb
    subst hs
    have hj':=hj
    rw[Array.getElem?_toList]at hj'
    rw[Array.getElem?_extract]at hj'
    split at hj'
    ·have ha:(⟨b,o,none⟩:Addr).add j=⟨b,o+j,none⟩:=by
      unfold Addr.add;split
      ·rename_i h0;subst h0;rfl
      ·rfl
     rw[ha]
     simp only[World.cell?,hw,hb]
     simpa using hj'
    ·cases hj')
   have hl:(cs.extract a.off (a.off+n)).toList.length=n:=by simp;omega
   rw[hl,Array.toArray_toList]at this
   exact this
  ·cases hr
 ·cases hr
theorem FK{h:AY}{t:TypeId}{a:Addr}{v:Value}(hw:w.heap=h)(hr:JW P h t a=some v):(loadVar t a).run P w=.ok v w:=by
 unfold JW at hr
 split at hr
 ·rename_i n hs
  cases hc:FR h a n with
  |none=>simp[hc,Gj]at hr
  |some c=>
   simp[hc,Gj]at hr
   subst hr
   simp[loadVar,Eh hs,DV hs,NG hw hc]
 ·rename_i n hs
  have:w.cell? a=some v:=by rw[Te,hw];exact hr
  simp[loadVar,Eh hs,this]
 ·cases hr
theorem R6(c:Array Value)(o:Nat)(l:List Value):(Cr c o l).size=c.size:=by
 induction l generalizing c o with
 |nil=>rfl
 |cons v l ih=>simp[Cr,ih]
theorem J0{b:Nat}{e:TypeId}{fr:Nat×Nat}(vs:List Value): ∀(o i:Nat) (c:Array Value) (w:World),w.heap[b]? =some (.cells c e fr)→o+i+vs.length≤c.size→(fr.2≤o+i∨o+i+vs.length≤fr.1)→Ds vs=true→
  ∃w',(storeCells ⟨b,o,none⟩ vs i).run P w=.ok () w'∧BV w w'∧w'.heap=w.heap.setIfInBounds b (.cells (Cr c (o+i) vs) e fr):=by
 induction vs with
 | nil=>
  intro o i c w hb _ _ _
  refine⟨w,by simp[storeCells],BV.refl w, ?_⟩
  have hlt:b<w.heap.size:=by
   rcases Nat.lt_or_ge b w.heap.size with h|h
   ·exact h
   ·rw[Array.getElem?_eq_none h]at hb;cases hb
  rw[Cr]
  apply Array.ext_getElem?
  intro j
  rw[Array.getElem?_setIfInBounds]
  split
  ·rename_i hj;subst hj;rw[hb]
  ·rfl
 | cons v l ih=>
  intro o i c w hb hn hf hv
  simp only[Ds,Bool.and_eq_true]at hv
  have hlt:b<w.heap.size:=by
   rcases Nat.lt_or_ge b w.heap.size with h|h
   ·exact h
   ·rw[Array.getElem?_eq_none h]at hb;cases hb
  have ha:(⟨b,o,none⟩:Addr).add i=⟨b,o+i,none⟩:=by
   unfold Addr.add;split
   ·rename_i h0;subst h0;rfl
   ·rfl
  simp only[List.length_cons]at hn hf
  have hc:w.cell? ⟨b,o+i,none⟩=some (c[o+i]'(by omega)):=by
   simp only[World.cell?,hb]
   simp[show o+i<c.size from by omega]
  have hz:w.frozen? ⟨b,o+i,none⟩=false:=by
   simp only[World.frozen?,hb]
   simp only[Bool.and_eq_false_iff,decide_eq_false_iff_not]
   omega
  have hh:(w.setCell ⟨b,o+i,none⟩ v).heap=w.heap.setIfInBounds b (.cells (c.setIfInBounds (o+i) v) e fr):=by
   apply Array.ext_getElem?
   intro j
   simp only[World.setCell,Array.getElem?_modify,Array.getElem?_setIfInBounds]
   by_cases hj:b=j
   ·subst hj
    have hbe:w.heap[b]=.cells c e fr:=by rw[Array.getElem?_eq_getElem hlt]at hb;exact Option.some.inj hb
    simp[hlt,hbe]
   ·simp[hj]
  obtain⟨w',hr,hre,hw'⟩:=ih o (i+1) (c.setIfInBounds (o+i) v) (w.setCell ⟨b,o+i,none⟩ v) (by rw[hh];simp[hlt]) (by simp;omega) (by omega) hv.2
  refine⟨w', ?_, ?_, ?_⟩
  ·simp only[storeCells,Sem.run_bind,ha]
   rw[run_store P w _ v _ hv.1,hc]
   simp only[hz,Bool.false_eq_true,if_false,Result.andThen_ok]
   exact hr
  ·exact⟨hre.1,hre.2.1,hre.2.2⟩
  ·rw[hw',hh]
   rw[Cr]
   apply Array.ext_getElem?
   intro j
   simp only[Array.getElem?_setIfInBounds]
   by_cases hj:b=j
   ·subst hj;simp[Nat.add_assoc]
   ·simp[hj]
theorem NL{h h':AY}{a:Addr}{vs:List Value}(hw:w.heap=h)(hr:Fq h a vs=some h'): ∃w',(storeCells a vs).run P w=.ok () w'∧BV w w'∧w'.heap=h':=by
 unfold Fq at hr
 split at hr
 ·rename_i c e fr hb
  split at hr
  ·rename_i hc
   obtain⟨hs,hn,hf,hv⟩:=hc
   simp at hr
   obtain⟨b,o,s⟩:=a
   simp only at hs hn hb hr hf
   subst hs
   obtain⟨w',h1,h2,h3⟩:=J0 (P:=P) (b:=b) (e:=e) (fr:=fr) vs o 0 c w (by rw[hw];exact hb) (by simpa using hn) (by simpa using hf) hv
   exact⟨w',h1,h2,by rw[h3,hw,←hr];simp⟩
  ·cases hr
 ·cases hr
theorem DT{p:Value}{a:Addr}(h:DW p=some a):p=.pointer (some a):=by
 unfold DW at h
 split at h
 ·cases h;rfl
 ·cases h
theorem Xf(eq:TypeId→Value→Value→Option Bool)(d:Nat)(ih: ∀t x y b,eq t x y=some b→(Op.equalIn d t x y).run P w=.ok b w)(xs ys:Array Value): ∀(fs:List Field) (b:Bool),YB P eq xs ys fs=some b→
  ∃ r,(forIn (m:=Sem) fs ((none,()):Option Bool×Unit) (fun f _=>
   if f.name≠ "_" then(do
    let x←part f.type xs f.offset
    let y←part f.type ys f.offset
    let b←Op.equalIn d f.type x y
    if(!b)=true then Pure.pure (ForInStep.done (some false,()))else Pure.pure (ForInStep.yield (none,())))
   else Pure.pure (ForInStep.yield (none,())))).run P w=.ok r w∧(match r.1 with|some b'=>b'=b|none=>b=true):=by
 intro fs
 induction fs with
 |nil=>intro b h;simp[YB]at h;exact⟨(none,()),by simp,by simp[h]⟩
 | cons f l ihl=>
  intro b h
  simp only[YB]at h
  by_cases hn:f.name= "_"
  ·rw[if_pos hn]at h
   obtain⟨r,h1,h2⟩:=ihl b h
   refine⟨r, ?_,h2⟩
   simp only[List.forIn_cons,hn,ne_eq,not_true_eq_false,if_false]
   simpa using h1
  ·rw [if_neg hn]at h
   cases hx:FM P f.type xs f.offset with
   |none=>simp[hx,eX,Hu]at h
   | some u=>cases hy:FM P f.type ys f.offset with
    |none=>simp[hx,hy,eX,Hu]at h
    | some v=>
     simp only[hx,hy,eX]at h
     cases he:eq f.type u v with
     |none=>simp[he,Hu]at h
     | some b1=>cases hl:YB P eq xs ys l with
      |none=>simp[he,hl,Hu]at h
      | some b2=>
       simp[he,hl,Hu]at h
       have hr:=ih _ _ _ _ he
       cases b1 with
       |false=>
        refine⟨(some false,()), ?_,by simpa using h⟩
        simp[hn,DU hx,DU hy,hr]
       |true=>
        obtain⟨r,h1,h2⟩:=ihl b (by rw[hl,←h];simp)
        refine⟨r, ?_,h2⟩
        simp only[List.forIn_cons]
        simp[hn,DU hx,DU hy,hr]
        simpa using h1
theorem Xg(eq:TypeId→Value→Value→Option Bool)(d:Nat)(ih: ∀t x y b,eq t x y=some b→(Op.equalIn d t x y).run P w=.ok b w)(te:TypeId)(n:Nat)(xs ys:Array Value): ∀(k i:Nat) (b:Bool),oE P eq te n xs ys k i=some b→
  ∃ r,(forIn (m:=Sem) (List.range' i k 1) ((none,()):Option Bool×Unit) (fun i _=>do
    let x←part te xs (i*n)
    let y←part te ys (i*n)
    let b←Op.equalIn d te x y
    if(!b)=true then Pure.pure (ForInStep.done (some false,()))else Pure.pure (ForInStep.yield (none,())))).run P w=.ok r w∧(match r.1 with|some b'=>b'=b|none=>b=true):=by
 intro k
 induction k with
 |zero=>intro i b h;simp[oE]at h;exact⟨(none,()),by simp,by simp[h]⟩
 | succ k ihl=>
  intro i b h
  simp only[oE]at h
  cases hx:FM P te xs (i*n)with
  |none=>simp[hx,eX,Hu]at h
  | some u=>cases hy:FM P te ys (i*n)with
   |none=>simp[hx,hy,eX,Hu]at h
   | some v=>
    simp only[hx,hy,eX]at h
    cases he:eq te u v with
    |none=>simp[he,Hu]at h
    | some b1=>cases hl:oE P eq te n xs ys k (i+1)with
     |none=>simp[he,hl,Hu]at h
     | some b2=>
      simp[he,hl,Hu]at h
      have hr:=ih _ _ _ _ he
      cases b1 with
      |false=>
       refine⟨(some false,()), ?_,by simpa using h⟩
       simp[List.range'_succ,DU hx,DU hy,hr]
      |true=>
       obtain⟨r,h1,h2⟩:=ihl (i+1) b (by rw[hl,←h];simp)
       refine⟨r, ?_,h2⟩
       simp only[List.range'_succ,List.forIn_cons]
       simp[DU hx,DU hy,hr]
       simpa using h1
theorem Xa: ∀(d:Nat) (t:TypeId) (x y:Value) (b:Bool),He P d t x y=some b→(Op.equalIn d t x y).run P w=.ok b w:=by
 intro d
 induction d with
 |zero=>intro t x y b h;simp[He]at h
 | succ d ih=>
  intro t x y b h
  unfold He at h
  split at h<;>rename_i hu<;>simp only[Op.equalIn,underlying,Sem.run_bind,run_program,Result.andThen_ok,hu,Sem.run_pure]
  ·simp at h;simp[h]
  ·split at h
   ·rename_i hk;subst hk;simp at h;simp[h]
   ·cases h
  ·simp at h;simp[beq_toListBytes,h]
  ·simp at h;simp[h]
  ·simp at h;simp[h]
  ·split at h
   ·rename_i hk
    obtain⟨rfl,hi⟩:=hk
    obtain⟨j,hj⟩:=Option.isSome_iff_exists.1 hi
    cases h
    simp[sizeOf,typeInfo,hj,run_sameAddr_same]
   ·cases h
  ·simp at h;simp[h]
  ·simp at h;simp[h]
  ·simp at h;simp[h]
  ·simp at h;simp[h]
  ·split at h
   ·cases h
   ·rename_i hs
    rw[if_neg hs]
    obtain⟨r,h1,h2⟩:=Xf (P:=P) (w:=w) (He P d) d ih _ _ _ _ h
    simp only[Sem.run_bind]
    rw[←Array.forIn_toList,h1]
    obtain⟨r1,r2⟩:=r
    cases r1 with
    |none=>simp at h2;simp[h2]
    |some b'=>simp at h2;simp[h2]
  ·unfold nT at h
   split at h
   ·rename_i jj hj
    obtain⟨r,h1,h2⟩:=Xg (P:=P) (w:=w) (He P d) d ih _ _ _ _ _ _ _ h
    simp only[sizeOf,typeInfo,hj,Sem.run_bind,run_program,Result.andThen_ok,Sem.run_pure,Std.Legacy.Range.forIn_eq_forIn_range',Std.Legacy.Range.size]
    simp only[Nat.sub_zero,Nat.add_sub_cancel,Nat.div_one]
    rw[h1]
    obtain⟨r1,r2⟩:=r
    cases r1 with
    |none=>simp at h2;simp[h2]
    |some b'=>simp at h2;simp[h2]
   ·cases h
  ·cases h
theorem Et{op:BinOp}{t:TypeId}{x y:Operand}{u v:Value}(h:D7 P t u v=true):(eqGuard op t x y u v).run P w=.ok () w:=by
 unfold eqGuard
 cases u
 case agg xs=>
  cases v
  case agg ys=>
   have h':P.eqGuardType P.depth t=false:=by simpa[D7]using h
   cases op<;>simp[h']
  all_goals (cases op<;>rfl)
 case nilIface=>
  cases v
  case nilIface=>cases h
  all_goals (cases op<;>rfl)
 all_goals (cases op<;>rfl)
theorem K5{op:BinOp}{t:TypeId}{x y:Operand}{k k':IntKind}{a b:Int}:(eqGuard op t x y (.int k a) (.int k' b)).run P w=.ok () w:=Et rfl
theorem K3{op:BinOp}{t:TypeId}{x y:Operand}{a b:ByteArray}:(eqGuard op t x y (.string a) (.string b)).run P w=.ok () w:=Et rfl
theorem PN{d:Nat}{t:TypeId}{k k':FloatKind}{b b':Nat}:He P (d+1) t (.float k b) (.float k' b')=none:=by
 unfold He;split<;>first|rfl|simp_all
theorem KO{d:Nat}{t:TypeId}{k k':FloatKind}{a b a' b':Nat}:He P (d+1) t (.complex k a b) (.complex k' a' b')=none:=by
 unfold He;split<;>first|rfl|simp_all
theorem Lw{op:BinOp}{t:TypeId}{x y:Operand}{u v:Value}{K:Value→Prop}(h:Cg P op t u v K):
  ∃r,(∀w:World,(do eqGuard op t x y u v;binOp op t u v:Sem Value).run P w=.ok r w)∧K r:=by
 unfold Cg at h
 split at h
 ·simp only[Sem.run_bind,K5,Result.andThen_ok]
  split at h<;>obtain⟨h0,hK⟩:=h<;>refine⟨_,fun w=> ?_,hK⟩
  all_goals (try subst h0)
  all_goals (try (obtain⟨rfl,h1⟩:=h0))
  all_goals simp_all[binOp,Op.intArith,Op.intDiv,Op.intBits,Op.intCmp,Op.shift]
  all_goals (try omega)
 ·rename_i a b
  simp only[Sem.run_bind,K3,Result.andThen_ok]
  split at h
  ·obtain⟨h0,hK⟩:=h
   refine⟨_,fun w=> ?_,hK⟩
   have h1: ¬(((a.size+b.size:Nat):Int)>IntKind.i64.max):=by
    have:IntKind.i64.max=9223372036854775807:=by decide
    rw[this];omega
   simp only[binOp,Op.stringOp]
   rw[if_neg h1]
   rfl
  all_goals first|exact h.elim|exact⟨_,fun w=>by simp[binOp,Op.stringOp],h⟩
 ·rename_i h1 h2
  have hb: ∀(w:World) (neg:Bool) b,He P 10000 t u v=some b→D7 P t u v=true→(do eqGuard op t x y u v;binOp (if neg then .neq else .eql) t u v:Sem Value).run P w=.ok (.bool (if neg then !b else b)) w:=by
   intro w neg b hb ho
   have he:(Op.equal t u v).run P w=.ok b w:=Xa _ _ _ _ _ hb
   simp only[Sem.run_bind,Et ho,Result.andThen_ok]
   cases neg
   ·have:binOp .eql t u v=(do Pure.pure (.bool (←Op.equal t u v))):=by
     unfold binOp
     cases u<;>cases v<;>first|rfl|exact(h1 _ _ _ _ rfl rfl).elim|exact(h2 _ _ rfl rfl).elim|(rw[show(10000:Nat)=9999+1 from rfl,PN]at hb;cases hb)|(rw[show(10000:Nat)=9999+1 from rfl,KO]at hb;cases hb)
    simp[this,he]
   ·have:binOp .neq t u v=(do Pure.pure (.bool (!(←Op.equal t u v)))):=by
     unfold binOp
     cases u<;>cases v<;>first|rfl|exact(h1 _ _ _ _ rfl rfl).elim|exact(h2 _ _ rfl rfl).elim|(rw[show(10000:Nat)=9999+1 from rfl,PN]at hb;cases hb)|(rw[show(10000:Nat)=9999+1 from rfl,KO]at hb;cases hb)
    simp[this,he]
  split at h
  ·obtain⟨h0,hK⟩:=h
   obtain⟨b,hb',hK⟩:=AB hK
   exact⟨_,fun w=>hb w false b hb' h0,hK⟩
  ·obtain⟨h0,hK⟩:=h
   obtain⟨b,hb',hK⟩:=AB hK
   exact⟨_,fun w=>hb w true b hb' h0,hK⟩
  ·exact h.elim
theorem To{s d:TypeId}{x:Value}{h:AY}{K:Value→AY→Prop}(hk:Qq P s d x h K):DA P (convert s d x) h K:=by
 unfold Qq at hk
 split at hk
 ·rename_i h1 h2
  split at hk
  ·exact .pure_ fun w hw=>⟨_,by simp[convert,underlying,h1,h2,Conv.intToInt],hk⟩
  ·exact hk.elim
 ·rename_i h1 h2
  split at hk
  ·exact .pure_ fun w hw=>⟨_,by simp[convert,underlying,h1,h2,Conv.intToString],hk⟩
  ·exact hk.elim
 ·rename_i h1 h2
  split at hk
  ·exact .pure_ fun w hw=>⟨_,by simp[convert,underlying,h1,h2],hk⟩
  ·exact hk.elim
 ·exact hk
theorem bc{t:TypeId}{s:Bool×Nat}(h:Cw P t=some s): ∃i,P.info? t=some i∧i.size=s.2:=by
 unfold Cw at h
 split at h<;>first|(rename_i i _ h1 _;simp at h;exact⟨_,h1,by rw[←h]⟩)|(rename_i h1 h2;simp at h;exact⟨_,h1,by rw[←h]⟩)|cases h|skip
 all_goals (simp at h;exact⟨_,‹_›,by rw[←h]⟩)
theorem FP{t:TypeId}{e:TypeId×Nat×Nat}(h:O5 P t=some e):P.underlying t=some (.slice e.1)∧ ∃i,P.info? e.1=some i∧i.size=e.2.1∧i.bytes=e.2.2:=by
 unfold O5 at h
 split at h
 ·rename_i e' hu
  cases hi:P.info? e' with
  |none=>simp[hi]at h
  |some i=>simp[hi]at h;subst h;exact⟨hu,i,hi,rfl,rfl⟩
 ·cases h
theorem Ja{t:TypeId}{i:Nat}{f:Nat×Bool×Nat}(h:Cd P t i=some f): ∃fs g,P.underlying t=some (.struct fs)∧fs[i]? =some g∧g.offset=f.1∧Cw P g.type=some f.2:=by
 unfold Cd at h
 split at h
 ·rename_i fs hu
  split at h
  ·rename_i g hg
   cases hs:Cw P g.type with
   |none=>simp[hs]at h
   |some s=>simp[hs]at h;subst h;exact⟨fs,g,hu,hg,rfl,hs⟩
  ·cases h
 ·cases h
theorem Lj{t:TypeId}{i:Nat}{x v:Value}(h:cK P t i x=some v):(Instr.field t x i).run P w=.ok v w:=by
 unfold cK at h
 split at h
 ·rename_i cs off n hf
  obtain⟨fs,g,h1,h2,h3,h4⟩:=Ja hf
  simp at h3 h4 h
  simp[Instr.field,underlying,h1,h2,asAgg,part,Eh h4,DV h4,h3,h]
 ·rename_i cs off n hf
  obtain⟨fs,g,h1,h2,h3,h4⟩:=Ja hf
  simp at h3 h4
  simp[Instr.field,underlying,h1,h2,asAgg,part,Eh h4,DV h4,h3,h]
 ·cases h
theorem Xw{t:TypeId}(fs:List Field)(places:List (Nat×Nat))(hu:P.underlying t=some (.struct fs.toArray))(hp:fs.mapM (fun f=>(P.info? f.type).map fun i=>(f.offset,i.size))=some places):
  ∀(vs:List (Nat×Value)) (c r:Array Value),Jy P t c vs=some r→Instr.fill (places.toArray[·]?) c vs=some r:=by
 have hpl: ∀(fs:List Field) (places:List (Nat×Nat)),fs.mapM (fun f=>(P.info? f.type).map fun i=>(f.offset,i.size))=some places→ ∀(i:Nat) (g:Field),fs[i]? =some g→ ∀s,Cw P g.type=some s→places[i]? =some (g.offset,s.2):=by
  intro fs
  induction fs with
  |nil=>intro places _ i g hg;simp at hg
  | cons f l ih=>
   intro places h i g hg s hs
   simp only[List.mapM_cons,Option.bind_eq_bind,Option.pure_def]at h
   cases hi:P.info? f.type with
   |none=>simp[hi]at h
   | some inf=>
    cases hr:l.mapM (fun f=>(P.info? f.type).map fun i=>(f.offset,i.size))with
    |none=>simp[hi,hr]at h
    | some rest=>
     simp[hi,hr]at h
     subst h
     cases i with
     |zero=>
      simp at hg;subst hg
      obtain⟨i',h1,h2⟩:=bc hs
      rw[hi]at h1;cases h1
      simp[h2]
     |succ i=>simp at hg ⊢;exact ih rest hr i g hg s hs
 have hsp: ∀(l:List Value) (c:Array Value) (o:Nat),Cr c o l=(l.zipIdx 0).foldl (fun cs x=>cs.setIfInBounds (o+x.2) x.1) c:=by
  have gen: ∀(l:List Value) (c:Array Value) (o k:Nat),Cr c (o+k) l=(l.zipIdx k).foldl (fun cs x=>cs.setIfInBounds (o+x.2) x.1) c:=by
   intro l
   induction l with
   |nil=>intro c o k;rfl
   |cons v l ih=>intro c o k;simp only[Cr,List.zipIdx_cons,List.foldl_cons];rw[Nat.add_assoc];exact ih _ o (k+1)
  intro l c o
  exact gen l c o 0
 intro vs
 induction vs with
 |nil=>intro c r h;simpa[Jy,Instr.fill]using h
 | cons x vs ih=>
  obtain⟨i,v⟩:=x
  intro c r h
  unfold Jy at h
  split at h
  ·rename_i off g n hf
   split at h
   ·rename_i hc
    obtain⟨fs',gg,h1,h2,h3,h4⟩:=Ja hf
    rw[hu]at h1
    cases h1
    have hpi:=hpl fs places hp i gg (by simpa using h2) _ h4
    unfold Instr.fill
    have hpi':places.toArray[i]? =some (off,n):=by simpa[h3]using hpi
    simp only[hpi']
    rw[if_neg (by simp only[hc.1];simp;omega)]
    have hz:(v.cells.zipIdx).foldl (fun cs x=>match x with|(c,j)=>cs.setIfInBounds (off+j) c) c=Cr c off v.cells.toList:=by
     rw[hsp,←Array.foldl_toList,Array.toList_zipIdx]
    rw[hz]
    exact ih _ _ h
   ·cases h
  ·cases h
theorem dx{t:TypeId}(fs:Array Field)(z:Value)(vs:List (Nat×Value))(c:Array Value)(ht:P.underlying t=some (.struct fs))(hok:CY P t=true)(hz:DD P t=some z)(hc:Jy P t z.cells vs=some c):P.built t vs=some c:=by
 unfold Program.built
 unfold DD at hz
 cases hi:P.info? t with
 |none=>simp[hi]at hz
 | some it=>
  simp[hi]at hz
  have hpl: ∃places,fs.toList.mapM (fun f=>(P.info? f.type).map fun i=>(f.offset,i.size))=some places:=by
   unfold CY at hok
   rw[ht]at hok
   simp only[List.all_eq_true]at hok
   have: ∀l:List Field,(∀f∈l,(P.info? f.type).isSome=true)→ ∃places,l.mapM (fun f=>(P.info? f.type).map fun i=>(f.offset,i.size))=some places:=by
    intro l
    induction l with
    |nil=>intro _;exact⟨[],by simp⟩
    |cons f l ih=>
     intro h
     obtain⟨pl,hpl⟩:=ih (fun f hf=>h f (List.mem_cons_of_mem _ hf))
     obtain⟨i,hi⟩:=Option.isSome_iff_exists.1 (h f (List.mem_cons_self ..))
     exact⟨_,by simp[List.mapM_cons,hi,hpl];rfl⟩
   exact this _ hok
  obtain⟨places,hp⟩:=hpl
  simp only[hi,ht,hz,hp]
  rw[Xw fs.toList places (by simpa using ht) hp vs z.cells c hc]
theorem Mr{t:TypeId}{vs:List (Nat×Value)}{v:Value}(h:ah P t vs=some v): ∃c,P.built t vs=some c∧v=.agg c:=by
 unfold ah ev at h
 split at h
 ·rename_i z hok hz
  cases hc:Jy P t z.cells vs with
  |none=>simp[hc,Gj]at h
  | some c=>
   simp[hc,Gj]at h
   have hok':=hok
   unfold CY at hok
   split at hok
   ·rename_i fs hu
    exact⟨c,dx fs z vs c hu hok' hz hc,h.symm⟩
   ·cases hok
 ·cases hc:P.built t vs with
  |none=>simp[hc,Gj]at h
  |some c=>simp[hc,Gj]at h;exact⟨c,rfl,h.symm⟩
theorem Mf{t:TypeId}{x i:Value}{K:Value→Prop}(h:NH P t x i K): ∃v,(∀w:World,(Instr.index t x i).run P w=.ok v w)∧K v:=by
 unfold NH at h
 split at h
 ·rename_i s k n
  obtain⟨⟨h1,h2⟩,h3⟩:=h
  obtain⟨b,h4,h5⟩:=AB h3
  refine⟨_,fun w=> ?_,h5⟩
  have h6:s[n.toNat]? =some b:=by
   rw[Array.getElem?_eq_some_iff]at h4
   obtain⟨hlt,he⟩:=h4
   have hlt':n.toNat<s.size:=hlt
   rw[ByteArray.getElem?_lt' s _ hlt']
   congr 1
  simp[Instr.index,asIntOf,underlying,h1,h2,h6]
 ·rename_i cs k n
  split at h
  ·rename_i len e hu
   obtain⟨h1,h2⟩:=h
   obtain⟨s,hs,h2⟩:=AB h2
   obtain⟨v,hv,hK⟩:=AB h2
   refine⟨v,fun w=> ?_,hK⟩
   simp only[Instr.index,asIntOf,underlying,Sem.run_bind,Sem.run_pure,Result.andThen_ok,run_program,hu]
   rw[if_pos h1]
   simp[DV hs,DU hv]
  ·exact h.elim
 ·exact h.elim
theorem MC{t:TypeId}{x i:Value}{K:Value→Prop}(h:NF P t x i K): ∃v,(∀w:World,(Instr.indexAt t x i).run P w=.ok v w)∧K v:=by
 unfold NF at h
 split at h
 ·rename_i a len cap k n
  obtain⟨e,he,h⟩:=AB h
  obtain⟨h1,hK⟩:=h
  obtain⟨hu,i,hi,hs,_⟩:=FP he
  refine⟨_,fun w=> ?_,hK⟩
  simp[Instr.indexAt,asIntOf,underlying,hu,h1,sizeOf,typeInfo,hi,hs]
 ·rename_i a k n
  split at h
  ·rename_i len e hu
   obtain⟨s,hs,h⟩:=AB h
   obtain⟨h1,hK⟩:=h
   refine⟨_,fun w=> ?_,hK⟩
   simp[Instr.indexAt,asIntOf,underlying,hu,Instr.sureAddr,h1,DV hs]
  ·exact h.elim
 ·exact h.elim
theorem D4{v:Option Value}{d:Nat}{n:Int}(h:Cv v d=some n):(v=none∧n=d)∨ ∃k,v=some (.int k n):=by
 unfold Cv at h
 split at h
 ·simp at h;exact .inl ⟨rfl,h.symm⟩
 ·simp at h;subst h;exact .inr ⟨_,rfl⟩
 ·cases h
theorem Fc{k:IntKind}{n:Int}{y:Nat}{c:BoundsCode}(h0:0≤n)(h1:n≤y):(Instr.sliceBound (.int k n) y c).run P w=.ok n.toNat w:=by
 simp[Instr.sliceBound,asIntOf,h0,h1]
theorem HO{sl:Bool}{len cap:Nat}{lo hi:Option Value}{l r:Int}(hl:Cv lo 0=some l)(hr:Cv hi len=some r)(hlen:len≤cap∨hi≠none)(h0:0≤l)(h1:l≤r)(h2:r≤cap):
  (Instr.sliceBounds sl len cap lo hi none).run P w=.ok (l.toNat,r.toNat,cap) w:=by
 have e0: ∀(k:IntKind) (c:BoundsCode),(Instr.sliceBound (.int k l) r.toNat c).run P w=.ok l.toNat w:=fun k c=>Fc h0 (by omega)
 have e1: ∀(k:IntKind) (c:BoundsCode),(Instr.sliceBound (.int k r) cap c).run P w=.ok r.toNat w:=fun k c=>Fc (by omega) h2
 rcases D4 hl with⟨rfl,e⟩|⟨k,rfl⟩<;>rcases D4 hr with⟨rfl,e'⟩|⟨k',rfl⟩
 ·subst e e';simp[Instr.sliceBounds]
 ·subst e;simp[Instr.sliceBounds,e1]
 ·subst e';have:=fun c=>e0 k c;simp at this;simp[Instr.sliceBounds,this]
 ·simp[Instr.sliceBounds,e0,e1]
theorem OS{t:TypeId}{x:Value}{lo hi:Option Value}{K:Value→Prop}(h:bA P t x lo hi K): ∃v,(∀w:World,(Instr.sliceAt t x lo hi none).run P w=.ok v w)∧K v:=by
 unfold bA at h
 split at h
 ·rename_i s
  obtain⟨l,hl,h⟩:=AB h
  obtain⟨r,hr,h⟩:=AB h
  obtain⟨⟨hu,h0,h1,h2⟩,hK⟩:=h
  refine⟨_,fun w=> ?_,hK⟩
  have:=HO (P:=P) (w:=w) (sl:=false) (len:=s.size) (cap:=s.size) hl hr (.inl (Nat.le_refl _)) h0 h1 h2
  simp[Instr.sliceAt,Instr.slice,underlying,hu,this]
 ·rename_i a len cap
  obtain⟨e,he,h⟩:=AB h
  obtain⟨l,hl,h⟩:=AB h
  obtain⟨r,hr,h⟩:=AB h
  obtain⟨⟨h0,h1,h2⟩,hK⟩:=h
  obtain⟨hu,i,hi',hs,_⟩:=FP he
  refine⟨_,fun w=> ?_,hK⟩
  have hbd:(Instr.sliceBounds true len cap lo hi none).run P w=.ok (l.toNat,r.toNat,cap) w:=by
   by_cases hh:hi=none
   ·subst hh
    simp[Cv]at hr
    have:len≤cap:=by omega
    exact HO (P:=P) (w:=w) hl (by simp[Cv,hr]) (.inl this) h0 h1 h2
   ·exact HO (P:=P) (w:=w) hl hr (.inr hh) h0 h1 h2
  simp[Instr.sliceAt,Instr.slice,underlying,hu,hbd,sizeOf,typeInfo,hi',hs]
 ·exact h.elim
theorem QW{len cap:Nat}{lo hi:Option Value}{mx:Value}{l r m:Int}(hl:Cv lo 0=some l)(hr:Cv hi len=some r)(hm:Cv (some mx) cap=some m)(hh:hi≠none)(h0:0≤l)(h1:l≤r)(h2:r≤m)(h3:m≤cap):
  (Instr.sliceBounds true len cap lo hi (some mx)).run P w=.ok (l.toNat,r.toNat,m.toNat) w:=by
 have e0: ∀(k:IntKind) (c:BoundsCode),(Instr.sliceBound (.int k l) r.toNat c).run P w=.ok l.toNat w:=fun k c=>Fc h0 (by omega)
 have e1: ∀(k:IntKind) (c:BoundsCode),(Instr.sliceBound (.int k r) m.toNat c).run P w=.ok r.toNat w:=fun k c=>Fc (by omega) (by omega)
 have e2: ∀(k:IntKind) (c:BoundsCode),(Instr.sliceBound (.int k m) cap c).run P w=.ok m.toNat w:=fun k c=>Fc (by omega) h3
 rcases D4 hm with⟨h,_⟩|⟨k2,h⟩
 ·cases h
 ·cases h
  rcases D4 hr with⟨rfl,_⟩|⟨k',rfl⟩
  ·exact absurd rfl hh
  ·rcases D4 hl with⟨rfl,e⟩|⟨k,rfl⟩
   ·subst e;simp[Instr.sliceBounds,e1,e2]
   ·simp[Instr.sliceBounds,e0,e1,e2]
theorem MZ{t:TypeId}{x mx:Value}{lo hi:Option Value}{K:Value→Prop}(h:NB P t x lo hi mx K): ∃v,(∀w:World,(Instr.sliceAt t x lo hi (some mx)).run P w=.ok v w)∧K v:=by
 unfold NB at h
 split at h
 ·rename_i a len cap
  obtain⟨e,he,h⟩:=AB h
  obtain⟨l,hl,h⟩:=AB h
  obtain⟨r,hr,h⟩:=AB h
  obtain⟨m,hm,h⟩:=AB h
  obtain⟨⟨hh,h0,h1,h2,h3⟩,hK⟩:=h
  obtain⟨hu,i,hi',hs,_⟩:=FP he
  refine⟨_,fun w=> ?_,hK⟩
  have hbd:=QW (P:=P) (w:=w) hl hr hm hh h0 h1 h2 h3
  have ee:(m.toNat=l.toNat)=(m=l):=propext (by omega)
  simp[Instr.sliceAt,Instr.slice,underlying,hu,hbd,sizeOf,typeInfo,hi',hs,ee]
 ·exact h.elim
theorem HT{t ty:TypeId}{x:Value}{K:Value→Prop}{h':AY}(h:GM P t x h' K): ∃v,(∀w:World,w.heap=h'→(Builtin.len_ #[t] ty #[x]).run P w=.ok v w)∧K v:=by
 unfold GM at h
 split at h
 ·obtain⟨hu,hK⟩:=h
  exact⟨_,fun w _=>by simp[Builtin.len_,underlying,hu,goInt],hK⟩
 ·obtain⟨e,he,hK⟩:=AB h
  obtain⟨hu,_⟩:=FP he
  exact⟨_,fun w _=>by simp[Builtin.len_,underlying,hu,goInt],hK⟩
 ·split at h
  ·rename_i hu
   exact⟨_,fun w _=>by simp[Builtin.len_,underlying,hu,goInt],h⟩
  ·exact h.elim
 ·rename_i r
  split at h
  ·rename_i hu hb
   refine⟨_,fun w hw=> ?_,h⟩
   rw[←hw]at hb
   have hg: ∀(k:Obj→Sem Value),((getObj r).bind k).run P w=(k (.map ‹_› ‹_›)).run P w:=by
    intro k
    simp only[getObj,Sem.bind,Sem.run,hb]
   have hgo:(getObj r).run P w=.ok (.map ‹_› ‹_›) w:=by simp only[getObj,Sem.run,hb]
   simp[Builtin.len_,underlying,hu,hgo,goInt]
  ·exact h.elim
 ·exact h.elim
end
section
variable {P:Program} {n:Nat} {ρ:Ba} {a:Act} {w:World} {K:Value→AY→Prop} {dst:Option Nat} {ty:TypeId} {pos:String} {aft:Array Edge} {gd:Option (Nat×Bool)}
theorem C0{op:Op}{v:Value}{w':World}(h:(execOp a.eval ⟨dst,op,ty,pos,aft,gd⟩).run P w=.ok (.value v) w')(hr:BV w w')(hK:K v w'.heap):fS P ⟨dst,op,ty,pos,aft,gd⟩ a w K:=⟨v,w',.inl h,hr,hK⟩
theorem C7{op:Op}{s:Sem Value}(he:execOp a.eval ⟨dst,op,ty,pos,aft,gd⟩=(do Pure.pure (Next.value (←s))))(h:DA P s w.heap K):fS P ⟨dst,op,ty,pos,aft,gd⟩ a w K:=aS he h
theorem DY[dd:DefD](hk:CV n ρ a){xs:Array Operand}{vs:List Value}(h:GA ρ xs.toList=some vs):xs.map a.eval=vs.toArray:=by
 have:=Rq hk h
 apply Array.ext'
 rw[Array.toList_map,this]
set_option maxHeartbeats 1000000 in
theorem X3[dd:DefD](hk:CV n ρ a){op:Op}(h:HL P op ty ρ w.heap K):fS P ⟨dst,op,ty,pos,aft,gd⟩ a w K:=by
 unfold HL at h
 split at h
 ·obtain⟨v,hv,hK⟩:=AB h
  exact C0 (v:=v) (by simp[execOp,Ac hk hv]) (BV.refl w) hK
 ·obtain⟨v,hv,hK⟩:=AB h
  exact C0 (v:=v) (by simp[execOp,Ac hk hv]) (BV.refl w) hK
 ·obtain⟨v,hv,h⟩:=AB h
  unfold QG at h
  split at h
  ·rename_i b
   cases b with
   |true=>
    obtain⟨u,hu,hK⟩:=AB (h.1 rfl)
    exact C0 (v:=u) (by simp[execOp,Ac hk hv,Ac hk hu,asBool]) (BV.refl w) hK
   |false=>
    obtain⟨u,hu,hK⟩:=AB (h.2 rfl)
    exact C0 (v:=u) (by simp[execOp,Ac hk hv,Ac hk hu,asBool]) (BV.refl w) hK
  ·exact h.elim
 ·obtain⟨z,hz,hK⟩:=AB h
  refine C0 (w':=w.alloc (.cells z.cells ‹_›)) ?_ ⟨rfl,rfl,rfl⟩ hK
  unfold DD at hz
  cases hi:P.info? ‹TypeId› with
  |none=>simp[hi]at hz
  |some i=>simp[hi]at hz;simp[execOp,Instr.alloc,zeroValue,typeInfo,hi,hz,newVar,newRow]
 ·obtain⟨v,hv,hK⟩:=AB h
  refine C0 (w':=w.alloc (.cells v.cells ‹_›)) ?_ ⟨rfl,rfl,rfl⟩ hK
  simp[execOp,Instr.box,Ac hk hv,newVar,newRow]
 ·rename_i t ps
  obtain⟨vs,hv,h⟩:=AB h
  obtain⟨v,hb,hK⟩:=AB h
  have hp:=Hn hk hv
  obtain⟨c,hc,rfl⟩:=Mr hb
  ·refine C0 (v:=.agg c) ?_ (BV.refl w) hK
   have:(ps.map fun(x:Nat×Operand)=>(x.1,a.eval x.2)).toList=vs:=by rw[←hp];simp
   have hr:=run_build (P:=P) w t (ps.map fun(x:Nat×Operand)=>(x.1,a.eval x.2)) c (by rw[this];exact hc)
   simp[execOp,hr]
 ·rename_i t len ps
  obtain⟨vs,hv,h⟩:=AB h
  obtain⟨r,hb,hK⟩:=AB h
  have hp:=Hn hk hv
  have hps:(ps.map fun(x:Nat×Operand)=>(x.1,a.eval x.2)).toList=vs:=by rw[←hp];simp
  unfold Cy at hb
  split at hb
  ·rename_i e hu
   cases hi:P.info? e with
   |none=>simp[hi]at hb
   | some ie=>cases hz:ie.zero with
    |none=>simp[hi,hz]at hb
    | some z=>
     simp only[hi,hz]at hb
     split at hb
     ·cases hb
     ·rename_i hbig
      split at hb
      ·rename_i c hf
       simp at hb
       subst hb
       refine C0 (w':=w.alloc (.cells c e)) ?_ ⟨rfl,rfl,rfl⟩ hK
       have hrun:(Instr.buildSlice t len (ps.map fun(x:Nat×Operand)=>(x.1,a.eval x.2))).run P w=.ok (.slice (some ⟨w.heap.size,0,none⟩) len len) (w.alloc (.cells c e)):=by
        by_cases h0:len*ie.size=0
        ·simp only[h0,if_true]at hf
         simp at hf
         simp[Instr.buildSlice,underlying,hu,sizeOf,typeInfo,hi,h0,newRow,hp,hf]
        ·simp only[h0,if_false]at hf
         simp[Instr.buildSlice,underlying,hu,sizeOf,typeInfo,zeroValue,hi,hz,h0,newRow,hbig,hp,hf]
       simp[execOp,hrun]
      ·cases hb
  ·cases hb
 ·
  obtain⟨p,hp,h⟩:=AB h
  obtain⟨ad,ha,h⟩:=AB h
  obtain⟨v,hv,hK⟩:=AB h
  have:=DT ha
  subst this
  exact C0 (v:=v) (by simp[execOp,Instr.loadAt,Instr.sureAddr,Ac hk hp,FK rfl hv]) (BV.refl w) hK
 ·
  obtain⟨p,hp,h⟩:=AB h
  obtain⟨ad,ha,h⟩:=AB h
  obtain⟨v,hv,h⟩:=AB h
  obtain⟨s,hs,h⟩:=AB h
  obtain⟨hsz,h⟩:=h
  obtain⟨h',hw,hK⟩:=AB h
  have:=DT ha
  subst this
  obtain⟨w',h1,h2,h3⟩:=NL (P:=P) (w:=w) rfl hw
  refine⟨undef,w',.inr ⟨?_,rfl⟩,h2,by rw[h3];exact hK⟩
  have hso:(sizeOf ‹_›).run P w=.ok s.2 w:=DV (b:=s.1) hs
  simp[execOp,Instr.storeAt,Instr.sureAddr,Ac hk hp,Ac hk hv,storeVar,hso,hsz,h1]
 ·
  obtain⟨p,hp,h⟩:=AB h
  obtain⟨ad,ha,hK⟩:=AB h
  have:=DT ha
  subst this
  exact C0 (v:=.pointer (some ad)) (by simp[execOp,Ac hk hp]) (BV.refl w) hK
 ·
  rename_i op t x y t'
  obtain⟨u,hu,h⟩:=AB h
  obtain⟨v,hv,h⟩:=AB h
  obtain⟨r,hr,hK⟩:=Lw (P:=P) (x:=x) (y:=y) h
  refine C0 (v:=r) ?_ (BV.refl w) hK
  simp only[execOp,Ac hk hu,Ac hk hv]
  rw[Sem.run_bind,hr w]
  rfl
 ·
  obtain⟨v,hv,h⟩:=AB h
  obtain⟨u,hu,hK⟩:=AB h
  refine C0 (v:=u) ?_ (BV.refl w) hK
  unfold oL at hu
  split at hu
  ·simp at hu;subst hu;simp[execOp,Ac hk hv,Op.unary,Op.intArith]
  ·simp at hu;subst hu;simp[execOp,Ac hk hv,Op.unary]
  ·cases hu
 ·
  obtain⟨v,hv,h⟩:=AB h
  exact C7 (by simp[execOp,Ac hk hv]) (To h)
 ·
  obtain⟨v,hv,h⟩:=AB h
  obtain⟨hc,hK⟩:=h
  exact C0 (by simp[execOp,Ac hk hv,run_makeInterface w _ _ hc]) (BV.refl w) hK
 ·
  obtain⟨us,hu,h⟩:=AB h
  obtain⟨vs,hv,hK⟩:=AB h
  exact C0 (by simp[execOp,DY hk hu,DY hk hv,Instr.makeFunc]) (BV.refl w) hK
 ·
  exact C0 (w':=w.alloc (.map #[] 0)) (by simp[execOp,Instr.makeMap]) ⟨rfl,rfl,rfl⟩ h
 ·
  obtain⟨l,hl,h⟩:=AB h
  obtain⟨c,hc,h⟩:=AB h
  exact C7 (by simp[execOp,Ac hk hl,Ac hk hc]) h
 ·
  obtain⟨v,hv,h⟩:=AB h
  obtain⟨l,hl,h⟩:=AB h
  obtain⟨r,hr,h⟩:=AB h
  obtain⟨u,hu,hK⟩:=OS (P:=P) h
  refine C0 (v:=u) ?_ (BV.refl w) hK
  have opt: ∀{o:Option Operand} {x:Option Value},Ea ρ o=some x→o.map a.eval=x:=by
   intro o x ho
   cases o with
   |none=>simp[Ea]at ho;simp[ho]
   |some y=>
    simp only[Ea]at ho
    cases hy:BE ρ y with
    |none=>simp[hy]at ho
    |some z=>simp[hy]at ho;simp[Ac hk hy,ho]
  simp[execOp,Ac hk hv,opt hl,opt hr,hu w]
 ·
  obtain⟨v,hv,h⟩:=AB h
  obtain⟨l,hl,h⟩:=AB h
  obtain⟨r,hr,h⟩:=AB h
  obtain⟨mv,hm,h⟩:=AB h
  obtain⟨u,hu,hK⟩:=MZ (P:=P) h
  refine C0 (v:=u) ?_ (BV.refl w) hK
  have opt: ∀{o:Option Operand} {x:Option Value},Ea ρ o=some x→o.map a.eval=x:=by
   intro o x ho
   cases o with
   |none=>simp[Ea]at ho;simp[ho]
   |some y=>
    simp only[Ea]at ho
    cases hy:BE ρ y with
    |none=>simp[hy]at ho
    |some z=>simp[hy]at ho;simp[Ac hk hy,ho]
  simp[execOp,Ac hk hv,opt hl,opt hr,Ac hk hm,hu w]
 ·
  obtain⟨p,hp,h⟩:=AB h
  obtain⟨ad,ha,h⟩:=AB h
  obtain⟨f,hf,h⟩:=AB h
  obtain⟨hz,hK⟩:=h
  have:=DT ha
  subst this
  obtain⟨fs,g,h1,h2,h3,h4⟩:=Ja hf
  have hso:(sizeOf g.type).run P w=.ok f.2.2 w:=DV (b:=f.2.1) h4
  exact C0 (by simp[execOp,Instr.fieldAt,underlying,h1,h2,Instr.sureAddr,Ac hk hp,fieldPlace,hso,hz,h3]) (BV.refl w) hK
 ·
  obtain⟨v,hv,h⟩:=AB h
  obtain⟨u,hu,hK⟩:=AB h
  exact C0 (v:=u) (by simp[execOp,Ac hk hv,Lj hu]) (BV.refl w) hK
 ·
  obtain⟨v,hv,h⟩:=AB h
  obtain⟨i,hi,h⟩:=AB h
  obtain⟨u,hu,hK⟩:=MC (P:=P) h
  exact C0 (v:=u) (by simp[execOp,Ac hk hv,Ac hk hi,hu w]) (BV.refl w) hK
 ·
  obtain⟨v,hv,h⟩:=AB h
  obtain⟨i,hi,h⟩:=AB h
  obtain⟨u,hu,hK⟩:=Mf (P:=P) h
  exact C0 (v:=u) (by simp[execOp,Ac hk hv,Ac hk hi,hu w]) (BV.refl w) hK
 ·
  obtain⟨v,hv,h⟩:=AB h
  obtain⟨i,hi,h⟩:=AB h
  exact C7 (by simp[execOp,Ac hk hv,Ac hk hi]) h
 ·
  obtain⟨m,hm,h⟩:=AB h
  obtain⟨i,hi,h⟩:=AB h
  obtain⟨v,hv,h⟩:=AB h
  obtain⟨u,w',hr,hre,hK⟩:=h w rfl
  simp only[Sem.run_bind]at hr
  cases hmu:(Instr.mapUpdate ‹_› m i v).run P w with
  |halt e w2=>simp[hmu]at hr
  |ok q w2=>
   simp[hmu]at hr
   obtain⟨rfl,rfl⟩:=hr
   exact⟨_,_,.inr ⟨by simp[execOp,Ac hk hm,Ac hk hi,Ac hk hv,hmu],rfl⟩,hre,hK⟩
 ·
  obtain⟨m,hm,h⟩:=AB h
  obtain⟨i,hi,h⟩:=AB h
  obtain⟨v,hv,h⟩:=AB h
  obtain⟨u,w',hr,hre,hK⟩:=h w rfl
  simp only[Sem.run_bind]at hr
  cases hmu:(Instr.mapUpdate ‹_› m i v).run P w with
  |halt e w2=>simp[hmu]at hr
  |ok q w2=>
   simp[hmu]at hr
   obtain⟨rfl,rfl⟩:=hr
   exact⟨_,_,.inr ⟨by simp[execOp,Ac hk hm,Ac hk hi,Ac hk hv,hmu],rfl⟩,hre,hK⟩
 ·
  obtain⟨v,hv,h⟩:=AB h
  exact C7 (by simp[execOp,Ac hk hv]) h
 ·
  obtain⟨v,hv,h⟩:=AB h
  exact C7 (by simp[execOp,Ac hk hv]) h
 ·
  obtain⟨v,hv,h⟩:=AB h
  exact C7 (by simp[execOp,Ac hk hv]) h
 ·
  obtain⟨v,hv,h⟩:=AB h
  split at h
  ·obtain⟨u,hu,hK⟩:=AB h
   exact C0 (v:=u) (by simp[execOp,Ac hk hv,Instr.extract,hu]) (BV.refl w) hK
  ·exact h.elim
 ·
  rename_i b args ts
  obtain⟨vs,hv,h'⟩:=AB h
  clear h
  have hargs:=DY hk hv
  split at h'
  ·rename_i u0 t hts0
   have hts:ts= #[t]:=by apply Array.ext';simpa using hts0
   subst hts
   obtain⟨u,hu,hK⟩:=HT (P:=P) (ty:=ty) h'
   refine C0 (v:=u) ?_ (BV.refl w) hK
   simp[execOp,resolve,invoke,builtin,hargs,hu w rfl]
  ·exact C7 (by simp[execOp,resolve,invoke,builtin,hargs]) h'
  ·exact C7 (by simp[execOp,resolve,invoke,builtin,hargs]) h'
  ·exact C7 (by simp[execOp,resolve,invoke,builtin,hargs]) h'
  ·exact C7 (by simp[execOp,resolve,invoke,builtin,hargs]) h'
  ·exact C7 (by simp[execOp,resolve,invoke,builtin,hargs]) h'
  ·exact C7 (by simp[execOp,resolve,invoke,builtin,hargs]) h'
  ·exact C7 (by simp[execOp,resolve,invoke,builtin,hargs]) h'
  ·refine C0 ?_ (BV.refl w) h'
   simp[execOp,resolve,invoke,builtin,hargs,run_max_int2]
  ·refine C0 ?_ (BV.refl w) h'
   simp[execOp,resolve,invoke,builtin,hargs,run_min_int2]
  ·exact h'.elim
 ·exact h.elim
end
section
variable {P:Program} {n:Nat} {all:List Oper} {w0:World} {Q:Exit→Act→World→Prop} {X:List PanicEntry→AY→Prop}
theorem D5[dd:DefD]{dst:Option Nat}{v:Value}{ρ:Ba}{K:Ba→Prop}{a:Act}(hk:CV n ρ a)(h:BJ n dst v ρ K): ∃ρ',K ρ'∧CV n ρ' (a.put dst v)∧(∀t,dst≠some t→get ρ' t=get ρ t):=by
 cases dst with
 |none=>exact⟨ρ,h,hk,fun _ _=>rfl⟩
 |some d=>
  obtain⟨hd,hK⟩:=h
  exact⟨_,hK,hk.put hd v,fun t ht=>by simp only[get];rw[if_neg (fun e=>ht (by rw[e]))]⟩
theorem DJ{f:FuncId}{args:Array Value}{w:World}(h:AD P f=true):(callFunc f args).run P w=.ok (.enter f args) w:=by
 unfold AD at h
 split at h
 ·rename_i fn hf
  simp only[Bool.and_eq_true,bne_iff_ne,ne_eq]at h
  obtain⟨h1,h2⟩:=h
  have h3:fn.body.isNone=false:=by cases hb:fn.body<;>simp_all
  unfold callFunc
  simp only[Sem.run_bind,run_program,Result.andThen_ok,hf]
  rw[if_neg (by simpa using h1),if_neg (by simp[h3])]
  rfl
 ·cases h
theorem CallsH.mono0{P:Program}{f:FuncId}{args:Array Value}{h:AY}{R R':Ending→AY→Prop}(hc:CallsH P f args h R)(hr: ∀e h',R e h'→R' e h'):CallsH P f args h R':=fun w hw=>
 (hc w hw).mono fun e w' ⟨h1,h2⟩=>⟨hr _ _ h1,h2⟩
theorem Bj.callsH{P:Program}{f:FuncId}{args:Array Value}{h:AY}{R:Ending→AY→Prop}(hc:Bj P f args h R):CallsH P f args h R:=by
 unfold Bj Hm at hc
 split at hc
 ·rename_i p hp
  split at hp
  ·rename_i H
   have:=H.choose_spec
   cases hp
   exact this.2.mono0 fun e h' ⟨h1,h2⟩=>by rw[h1,h2];exact hc
  ·cases hp
 ·exact hc
theorem C6{P:Program}{m m1 m2:Machine}{a b:Nat}(h1:runN P a m=.next m1)(h2:runN P b m=.next m2)(e1: ∃o w,step P m1=.ended o w)(hab:a≤b):m1=m2:=by
 obtain⟨o,w,e1⟩:=e1
 obtain⟨k,rfl⟩:=Nat.exists_eq_add_of_le hab
 rw[runN_add,h1]at h2
 cases k with
 |zero=>simpa[runN]using h2
 |succ k=>simp[runN,e1]at h2
theorem CallsH.det{P:Program}{f:FuncId}{args:Array Value}{h:AY}{p:Value×AY}{R:Ending→AY→Prop}(hx:Ue P f args h p)(hc:CallsH P f args h R)
  (h1: ∀h',¬R .outgrown h') (h2: ∀ch h',¬R (.panicked ch) h'):R (.returned p.1) p.2:=by
 obtain⟨hi,hx⟩:=hx
 obtain⟨e1,w1,f1,⟨⟨rfl,hw1⟩,_⟩,⟨n1,s1⟩,hf1,l1⟩:=hx {(default:World)with heap:=h} rfl []
 obtain⟨e2,w2,f2,⟨hR,_⟩,s2,hf2,l2⟩:=hc {(default:World)with heap:=h} rfl []
 cases e2 with
 |outgrown=>exact absurd hR (h1 _)
 |panicked ch=>exact absurd hR (h2 _ _)
 | returned v=>
  obtain⟨n2,s2⟩:=s2
  have d1:=step_leave_done l1 (by rw[hf1];exact hi)
  have d2:=step_leave_done l2 (by rw[hf2];exact hi)
  have hm:lone f1 [] w1=lone f2 [] w2:=by
   rcases Nat.le_total n1 n2 with hn|hn
   ·exact C6 s1 s2 ⟨_,_,d1⟩ hn
   ·exact(C6 s2 s1 ⟨_,_,d2⟩ hn).symm
  rw[hm,d2]at d1
  cases d1
  rw[←hw1]
  exact hR
theorem Bj.exact{P:Program}{f:FuncId}{args:Array Value}{h h':AY}{v:Value}{Q:Ending→AY→Prop}(hi:P.inits.idxOf? f=none)(hx:CallsH P f args h fun e h2=>e=.returned v∧h2=h'):
  Bj P f args h Q=Q (.returned v) h':=by
 have H: ∃p,Ue P f args h p:=⟨(v,h'),hi,hx⟩
 unfold Bj Hm
 rw[dif_pos H]
 have:=CallsH.det H.choose_spec hx (by intro _ ⟨h,_⟩;cases h) (by intro _ _ ⟨h,_⟩;cases h)
 simp only[Ending.returned.injEq]at this
 simp only[this.1,this.2]
theorem CallsH.mono{P:Program}{f:FuncId}{args:Array Value}{h:AY}{R R':Ending→AY→Prop}(hc:CallsH P f args h R)(hr: ∀e h',R e h'→R' e h')
  (h1: ∀h',¬R .outgrown h':=by intro _ hx;first|(simp at hx;done)|(obtain⟨_,hx,_⟩:=hx;cases hx;done)|(obtain⟨hx,_⟩:=hx;cases hx;done)|(obtain⟨_,_,hx,_⟩:=hx;cases hx;done))
  (h2: ∀ch h',¬R (.panicked ch) h':=by intro _ _ hx;first|(simp at hx;done)|(obtain⟨_,hx,_⟩:=hx;cases hx;done)|(obtain⟨hx,_⟩:=hx;cases hx;done)|(obtain⟨_,_,hx,_⟩:=hx;cases hx;done)):Bj P f args h R':=by
 unfold Bj
 split
 ·rename_i p hp
  unfold Hm at hp
  split at hp
  ·rename_i H
   cases hp
   exact hr _ _ (CallsH.det H.choose_spec hc h1 h2)
  ·cases hp
 ·exact hc.mono0 hr
theorem JM[dd:DefD]{o:Oper}{ρ:Ba}{K:Ba→AY→Prop}{a:Act}{w:World}{next:Act→World→Prop}(hX: ∀ch h w,X ch h→w.heap=h→BV w0 w→Q (.panic ch) a w)
  (h:BZ P n o ρ w.heap K X) (hk:CV n ρ a) (hr:BV w0 w)
  (hn: ∀ρ' a' w',K ρ' w'.heap→CV n ρ' a'→BV w0 w'→(∀t,o.dst≠some t→get ρ' t=get ρ t)→next a' w'):o.wp P a w next Q:=by
 obtain⟨dst,op,ty,pos,aft,gd⟩:=o
 unfold BZ at h
 split at h
 ·rename_i f args ts hop
  simp only at hop
  subst hop
  obtain⟨fv,hf,h⟩:=AB h
  obtain⟨vs,hv,h⟩:=AB h
  unfold TB at h
  split at h
  ·rename_i g fs cs _
   split at h
   ·rename_i hc
    have hrun:(execOp a.eval ⟨dst,.call ⟨.value f,args,ts⟩,ty,pos,aft,gd⟩).run P w=.ok (.enter g (fs++vs.toArray++cs)) w:=by
     simp only[execOp,resolve,Ac hk hf,Deferred.ofValue,Sem.run_bind,Sem.run_pure,Result.andThen_ok,invoke,DY hk hv]
     exact DJ hc
    unfold Oper.wp
    rw[hrun]
    simp only[Oper.upon]
    refine(h.callsH w rfl).mono fun e w' ⟨hR,hre⟩=> ?_
    cases e with
    |returned v=>
     have hR':BJ n dst v ρ (fun ρ'=>K ρ' w'.heap):=hR
     obtain⟨ρ',hK,hk',he⟩:=D5 hk hR'
     exact hn ρ' _ _ hK hk' (hr.trans hre) he
    |panicked ch=>exact hX _ _ _ hR rfl (hr.trans hre)
    |outgrown=>exact hR.elim
   ·obtain⟨v,w',he,hre,hR⟩:=h w rfl
    have hrun:(execOp a.eval ⟨dst,.call ⟨.value f,args,ts⟩,ty,pos,aft,gd⟩).run P w=.ok (.value v) w':=by
     simp only[execOp,resolve,Ac hk hf,Deferred.ofValue,Sem.run_bind,Sem.run_pure,Result.andThen_ok,invoke,DY hk hv]
     exact he
    have hR':BJ n dst v ρ (fun ρ'=>K ρ' w'.heap):=hR
    obtain⟨ρ',hK,hk',he'⟩:=D5 hk hR'
    unfold Oper.wp
    rw[hrun]
    exact hn ρ' _ _ hK hk' (hr.trans hre) he'
  ·exact h.elim
 ·rename_i x hop
  simp only at hop
  subst hop
  obtain⟨v,hv,h⟩:=AB h
  split at h
  ·unfold Oper.wp
   simp only[execOp,Ac hk hv,Instr.panic,goPanic,Sem.run_bind,Sem.run_halt,Result.andThen_halt,Oper.upon]
   exact hX _ _ _ h rfl hr
  ·exact h.elim
 ·obtain⟨v,w',hrun,hre,hK⟩:=X3 (dst:=dst) (pos:=pos) (aft:=aft) (gd:=gd) hk h
  obtain⟨ρ',hK2,hk',he⟩:=D5 hk hK
  unfold Oper.wp
  rcases hrun with hrun|⟨hrun,rfl⟩
  ·rw[hrun];exact hn ρ' _ _ hK2 hk' (hr.trans hre) he
  ·rw[hrun];exact hn ρ' _ _ hK2 hk' (hr.trans hre) he
theorem FQ[dd:DefD]{o:Oper}{ρ:Ba}{K:Ba→AY→Prop}{a:Act}{w:World}{next:Act→World→Prop}(hX: ∀ch h a w,X ch h→CV n [] a→w.heap=h→BV w0 w→Q (.panic ch) a w)
  (h:BZ P n o ρ w.heap K X) (hk:CV n ρ a) (hr:BV w0 w)
  (hn: ∀ρ' a' w',K ρ' w'.heap→CV n ρ' a'→BV w0 w'→(∀t,o.dst≠some t→get ρ' t=get ρ t)→next a' w'):o.wp P a w next Q:=
 JM (fun ch h w h1 h2 h3=>hX ch h a w h1 ⟨hk.1,hk.2.1,fun t v hv=>by cases hv⟩ h2 h3) h hk hr hn
def FZ(all:List Oper)(ρ:Ba)(cur:Option (Nat×Bool))(rest:List Oper):Prop:=
 match cur with
 |none=>True
 |some (j,want)=> ∃s,Cj all j=some s∧get ρ s=some (.bool want)∧ ∀o∈rest,o.dst≠some s
def YD(rest:List Oper)(ρ ρ':Ba):Prop:= ∀t,(∀o∈rest,o.dst≠some t)→get ρ' t=get ρ t
theorem C1{a:Act}{j s:Nat}(h:Cj all j=some s):yielded all.toArray a.tmps j=match a.tmps[s]? with|some (.bool b)=>some b|_=>none:=by
 unfold Cj at h
 unfold yielded
 have:(all.toArray[j]?).bind (·.dst)=some s:=by
  cases hj:all[j]? with
  |none=>simp[hj]at h
  |some o=>simp[hj]at h;simp[hj,h]
 rw[this];rfl
theorem Ej[dd:DefD]{ρ:Ba}{a:Act}{o:Oper}{cur:Option (Nat×Bool)}{rest:List Oper}(hk:CV n ρ a)(hc:FZ all ρ cur rest)(hg:o.guard=cur):Region.wanted o (yielded all.toArray a.tmps)=true:=by
 unfold Region.wanted
 rw[hg]
 cases cur with
 |none=>rfl
 |some c=>
  obtain⟨j,want⟩:=c
  obtain⟨s,h1,h2,_⟩:=hc
  simp only[C1 h1,hk.2.2 s _ h2]
  simp
theorem Fe(cur:Option (Nat×Bool))(l:List Oper):Bl cur l++CJ cur l=l:=by
 induction l with
 |nil=>rfl
 |cons o l ih=>
  unfold Bl CJ
  split
  ·rfl
  ·simp[ih]
theorem J9{s j:Nat}{want:Bool}: ∀(l:List Oper) (sk:List Nat),Cn all s j want sk l=true→ ∀o∈l,o.dst≠some s:=by
 intro l
 induction l with
 |nil=>intro _ _ o ho;cases ho
 | cons x l ih=>
  intro sk h o ho
  unfold Cn at h
  split at h
  ·rename_i d j' w' hd hg
   split at h
   ·cases h
   ·rename_i hds
    rcases List.mem_cons.1 ho with rfl|ho
    ·rw[hd];intro e;cases e;exact hds rfl
    ·split at h
     ·exact ih _ h o ho
     ·split at h
      ·split at h
       ·exact ih _ h o ho
       ·cases h
      ·cases h
  ·cases h
theorem Ms[dd:DefD]{s j:Nat}{want b:Bool}(hj:Cj all j=some s)(hb:b≠want){rest':List Oper}{w:World}: ∀(l:List Oper) (sk:List Nat) (ρ:Ba) (a:Act),Cn all s j want sk l=true→CV n ρ a→
  a.tmps[s]? =some (.bool b)→(∀s'∈sk,a.tmps[s']? =some undef∨a.tmps[s']? =none)→(∀a',CV n (DR l ρ) a'→a'.tmps[s]? =some (.bool b)→wpList P all.toArray Q rest' a' w)→wpList P all.toArray Q (l++rest') a w:=by
 intro l
 induction l with
 |nil=>intro sk ρ a _ hk hs _ hn;exact hn a hk hs
 | cons x l ih=>
  intro sk ρ a h hk hs hsk hn
  unfold Cn at h
  split at h
  ·rename_i d j' w' hd hg
   split at h
   ·cases h
   ·rename_i hds
    have hput:CV n ((d,none)::ρ) (a.put x.dst undef):=by rw[hd];exact hk.hide d undef
    have hs':(a.put x.dst undef).tmps[s]? =some (.bool b):=by
     rw[hd];simp only[Act.put,Array.getElem?_setIfInBounds];rw[if_neg hds];exact hs
    have hsk': ∀s'∈d::sk,(a.put x.dst undef).tmps[s']? =some undef∨(a.put x.dst undef).tmps[s']? =none:=by
     intro s' hm
     rw[hd];simp only[Act.put,Array.getElem?_setIfInBounds]
     rcases List.mem_cons.1 hm with rfl|hm
     ·simp only[if_true];split<;>simp
     ·split
      ·split<;>simp
      ·exact hsk s' hm
    have hhid:DR (x::l) ρ=DR l ((d,none)::ρ):=by simp[DR,hd]
    rw[hhid]at hn
    have go:Region.wanted x (yielded all.toArray a.tmps)=false→Cn all s j want (d::sk) l=true→wpList P all.toArray Q (x::l++rest') a w:=by
     intro hw hok
     show wpList P all.toArray Q (x::(l++rest')) a w
     exact wpList_skip hw (ih (d::sk) _ _ hok hput hs' hsk' hn)
    split at h
    ·rename_i hjw
     obtain⟨rfl,rfl⟩:=hjw
     refine go ?_ h
     unfold Region.wanted
     simp only[hg,C1 hj,hs]
     simpa using hb
    ·split at h
     ·rename_i s' hs2
      split at h
      ·rename_i hm
       refine go ?_ h
       unfold Region.wanted
       rcases hsk s' hm with e|e
       ·simp only[hg,C1 hs2,e,undef];rfl
       ·simp only[hg,C1 hs2,e];rfl
      ·cases h
     ·cases h
  ·cases h
theorem EX{t:Nat}: ∀(l:List Oper) (ρ:Ba),(∀o∈l,o.dst≠some t)→get (DR l ρ) t=get ρ t:=by
 intro l
 induction l with
 |nil=>intro ρ _;rfl
 | cons x l ih=>
  intro ρ h
  unfold DR
  split
  ·rename_i d hd
   rw[ih _ (fun o ho=>h o (List.mem_cons_of_mem _ ho))]
   simp only[get]
   rw[if_neg (fun e=>h x (List.mem_cons_self ..) (by rw[hd,e]))]
  ·exact ih _ (fun o ho=>h o (List.mem_cons_of_mem _ ho))
theorem Tt{t:Nat}{v:Value}: ∀(l:List Oper) (ρ:Ba),get (DR l ρ) t=some v→(∀o∈l,o.dst≠some t)∧get ρ t=some v:=by
 intro l
 induction l with
 |nil=>intro ρ h;exact⟨fun o ho=>(by cases ho),h⟩
 | cons x l ih=>
  intro ρ h
  unfold DR at h
  split at h
  ·rename_i d hd
   obtain⟨h1,h2⟩:=ih _ h
   simp only[get]at h2
   split at h2
   ·cases h2
   ·rename_i hne
    refine⟨fun o ho=> ?_,h2⟩
    rcases List.mem_cons.1 ho with rfl|ho
    ·rw[hd];intro e;cases e;exact hne rfl
    ·exact h1 o ho
  ·rename_i hd
   obtain⟨h1,h2⟩:=ih _ h
   refine⟨fun o ho=> ?_,h2⟩
   rcases List.mem_cons.1 ho with rfl|ho
   ·rw[hd];simp
   ·exact h1 o ho
end
end Go.Vm
