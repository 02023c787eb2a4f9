/-
Regions that draw their order, where what acts comes up alone and all else changes nothing that is known: one evaluation along a plan serves every order.
Conditions: none. Generic: it speaks of no program.
-/
import Derived.Test.YtfphceknmgadgaaGreatDoorVmAD
set_option linter.unusedSimpArgs false
set_option linter.unusedVariables false
namespace Go.Vm
section
variable {P:Program} {ops:Array Oper} {Q:Exit→Act→World→Prop} {md:Region.Mode} {σ:Type} {Inv:σ→World→Prop} {le:σ→σ→Prop} {rs:Nat→Bool}
def aL(P:Program)(Q:Exit→Act→World→Prop)(Inv:σ→World→Prop)(le:σ→σ→Prop)(rs:Nat→Bool)(ops:Array Oper)(i:Nat)(a:Act)(s:σ)(K:Act→σ→Prop):Prop:= ∀w,Inv s w→wpOp P ops Q i (fun a' w'=> ∃s',Inv s' w'∧(rs i=false→le s s')∧K a' s') a w
def Fg(P:Program)(md:Region.Mode)(ops:Array Oper)(Q:Exit→Act→World→Prop)(Inv:σ→World→Prop)(le:σ→σ→Prop)(rs:Nat→Bool)(QA:Act→σ→Prop):Nat→Array Bool→Act→σ→Prop
 |0,listed,a,s=>Region.ready md ops listed=[]∧QA a s
 |fuel+1,listed,a,s=>
  (Region.ready md ops listed=[]→QA a s)∧
  ∀i∈Region.ready md ops listed,aL P Q Inv le rs ops i a s fun a' s'=>Fg P md ops Q Inv le rs QA fuel (listed.setIfInBounds i true) a' s'
theorem E2{QA:Act→σ→Prop}(hQ: ∀a s w,QA a s→Inv s w→Q .normal a w): ∀(fuel:Nat) (listed:Array Bool) (a:Act) (s:σ) (w:World),Inv s w→Fg P md ops Q Inv le rs QA fuel listed a s→wpAny P md ops Q fuel listed a w
 |0,_,_,_,_,hi,h=>⟨h.1,hQ _ _ _ h.2 hi⟩
 |fuel+1,_,_,_,_,hi,h=>⟨fun h0=>hQ _ _ _ (h.1 h0) hi,fun i hr=>wpOp_mono (fun a' w' ⟨s',h1,_,h2⟩=>E2 hQ fuel _ a' s' w' h1 h2) (h.2 i hr _ hi)⟩
def FD(P:Program)(ops:Array Oper)(Inv:σ→World→Prop)(le:σ→σ→Prop)(fr:Bool)(s0:σ)(o:Oper)(v:Value)(a:Act):Prop:=
 (Region.wanted o (yielded ops a.tmps)=true∧ ∀s w,(fr=false→le s0 s)→Inv s w→o.quietAt P a (fun w'=>Grew w.heap w'.heap∧BV w w') w v)∨
 (Region.wanted o (yielded ops a.tmps)=false∧v=undef)
theorem FD.of_same{fr:Bool}{s0:σ}{o:Oper}{v:Value}{a a':Act}(hy:FD P ops Inv le fr s0 o v a)(he:execOp a'.eval o=execOp a.eval o)
  (hw:Region.wanted o (yielded ops a'.tmps)=Region.wanted o (yielded ops a.tmps)):FD P ops Inv le fr s0 o v a':=by
 unfold FD Oper.quietAt at*
 rw[he,hw]
 exact hy
theorem FD.step{fr:Bool}{i:Nat}{o:Oper}{v:Value}{a:Act}(hg: ∀s w w',Inv s w→Grew w.heap w'.heap→BV w w'→Inv s w')(hi:ops[i]? =some o){s:σ}(hr: ∀s,le s s)(hy:FD P ops Inv le fr s o v a){K:Act→σ→Prop}(h:K (a.put o.dst v) s):aL P Q Inv le rs ops i a s K:=by
 intro w hw
 unfold Go.wpOp
 simp only[hi]
 rcases hy with⟨hwt,hv⟩|⟨hwt,rfl⟩
 ·simp only[hwt,if_true]
  refine .inl ?_
  have h3:=hv s w (fun _=>hr s) hw
  unfold Oper.quietAt at h3
  unfold Oper.wp
  generalize (execOp a.eval o).run P w=r at*
  cases r with
  | ok n w'=>
   cases n<;>simp only[Oper.quietUpon]at h3<;>simp only[Oper.upon]
   case value u=>
    obtain⟨e1,e2⟩:=h3
    rw[e1,e2]
    exact⟨s,hw,fun _=>hr s,h⟩
   case skip=>
    obtain⟨e1,e2⟩:=h3
    rw[e1,←e2]
    exact⟨s,hw,fun _=>hr s,h⟩
   case enter f args=>
    obtain⟨e1,hc⟩:=h3
    rw[e1]
    exact hc.mono fun e w'' ⟨he,hw'',hr'⟩=>by subst he;exact⟨s,hg s w w'' hw hw'' hr',fun _=>hr s,h⟩
  |halt x w'=>simp only[Oper.quietUpon]at h3
 ·simp only[hwt,Bool.false_eq_true,if_false]
  exact⟨s,hw,fun _=>hr s,h⟩
theorem Xi{fr:Bool}{s0:σ}{j:Nat}{oi oj:Oper}{v:Value}(hj:ops[j]? =some oj)(hap:oi.apart ops oj=true)
  (hsi: ∀cs b,oi.op≠ .select cs b) (hsj: ∀cs b,oj.op≠ .select cs b)
  (hQ: ∀c a w,Q (.panic c) (a.put oi.dst v) w→Q (.panic c) a w) {K:Act→World→Prop} {a:Act} {w:World}
  (hy:FD P ops Inv le fr s0 oi v a) (h:wpOp P ops Q j K (a.put oi.dst v) w):
  wpOp P ops Q j (fun a' w'=>FD P ops Inv le fr s0 oi v a'∧K (a'.put oi.dst v) w') a w:=by
 obtain⟨h1,h2,h3⟩:=Oper.apart_spec hap
 have keep: ∀(a:Act),FD P ops Inv le fr s0 oi v a→ ∀u,FD P ops Inv le fr s0 oi v (a.put oj.dst u):=fun a hy u=>
  hy.of_same (execOp_put oi hsi a oj.dst u h3) (wanted_put oi a oj.dst u h3)
 have keepD: ∀d,FD P ops Inv le fr s0 oi v {a with defers:=d::a.defers}:=fun d=>hy.of_same rfl rfl
 unfold wpOp at*
 simp only[hj]at*
 rw[wanted_put oj a oi.dst v h1]at h
 split
 ·rename_i hw
  simp only[hw,if_true]at h
  rcases h with h|⟨hasks,hlets⟩
  case inr=>exact .inr ⟨by unfold Oper.asks at *;rw[execOp_put oj hsj a oi.dst v h1]at hasks;exact hasks,hlets⟩
  refine .inl ?_
  unfold Oper.wp at*
  rw[execOp_put oj hsj a oi.dst v h1]at h
  generalize (execOp a.eval oj).run P w=r at*
  cases r with
  | ok n w'=>
   cases n<;>simp only[Oper.upon]at h⊢
   case value u=>exact⟨keep a hy u,by rw[←Act.put_comm a v u h2];exact h⟩
   case skip=>exact⟨keep a hy _,by rw[←Act.put_comm a v undef h2];exact h⟩
   case defer d=>
    refine⟨keep _ (keepD d) _, ?_⟩
    rw[←Act.put_comm _ v undef h2,←Act.put_defers]
    exact h
   case enter f args=>
    refine Calls.mono h fun e w'' he=> ?_
    cases e with
    |returned u=>exact⟨keep a hy u,by rw[←Act.put_comm a v u h2];exact he⟩
    |panicked c=>exact hQ _ _ _ he
    |outgrown=>exact he
   case row row args=>exact Rows.mono h fun u w'' he=>⟨keep a hy u,by rw[←Act.put_comm a v u h2];exact he⟩
  |halt x w'=>
   cases x<;>simp only[Oper.upon]at h⊢
   case panic u=>exact hQ _ _ _ h
 ·rename_i hw
  simp only[hw]at h
  exact⟨keep a hy _,by rw[←Act.put_comm a v undef h2];exact h⟩
theorem MQ{QA:Act→σ→Prop}(hg: ∀s w w',Inv s w→Grew w.heap w'.heap→BV w w'→Inv s w')(hrf: ∀s,le s s)(htr: ∀s1 s2 s3,le s1 s2→le s2 s3→le s1 s3){fr:Bool}{i:Nat}{oi:Oper}{v:Value}(hi:ops[i]? =some oi)(hsel: ∀(j:Nat) (o:Oper) cs b,ops[j]? =some o→o.op≠ .select cs b)
  (hQ: ∀c a w,Q (.panic c) (a.put oi.dst v) w→Q (.panic c) a w)
  (hrs: ∀(j:Nat) (oj:Oper),ops[j]? =some oj→j≠i→rs j=true→fr=true∨(∃e∈oj.after,Region.binds md e=true∧e.on=i)∨(∃e∈oi.after,Region.binds md e=true∧e.on=j)):
  ∀(fuel:Nat) (listed:Array Bool) (a:Act) (s:σ),
   (∀j oj,ops[j]? =some oj→j≠i→listed.getD j true=false→(∀e∈oj.after,Region.binds md e=true→e.on≠i)→oi.apart ops oj=true)→
   i∈Region.ready md ops listed→FD P ops Inv le fr s oi v a→
   Fg P md ops Q Inv le rs QA fuel (listed.setIfInBounds i true) (a.put oi.dst v) s→Fg P md ops Q Inv le rs QA (fuel+1) listed a s:=by
 intro fuel
 induction fuel with
 | zero=>
  intro listed a s _ hr hy H
  refine⟨fun h=>(by rw[h]at hr;cases hr),fun j hj=> ?_⟩
  by_cases hji:j=i
  ·subst hji;exact hy.step hg hi hrf H
  ·have:=ready_mono hj hji
   rw[H.1]at this
   cases this
 | succ fuel ih=>
  intro listed a s hfree hr hy H
  refine⟨fun h=>(by rw[h]at hr;cases hr),fun j hj=> ?_⟩
  by_cases hji:j=i
  ·subst hji;exact hy.step hg hi hrf H
  ·have h1:=H.2 j (ready_mono hj hji)
   obtain⟨hjun,oj,hoj,hall⟩:=mem_ready.1 hj
   obtain⟨hiun,oi',hoi',halli⟩:=mem_ready.1 hr
   rw[hi]at hoi'
   cases hoi'
   have hnot: ∀e∈oj.after,Region.binds md e=true→e.on≠i:=fun e he hb heq=>by
    have h1:=hall e he hb
    have h0:=(mem_ready.1 hr).1
    rw[heq]at h1
    rcases Nat.lt_or_ge i listed.size with h'|h'
    ·simp[h']at h0 h1;rw[h0]at h1;cases h1
    ·simp[Array.getElem?_eq_none h']at h1
   have hnot2: ∀e∈oi.after,Region.binds md e=true→e.on≠j:=fun e he hb heq=>by
    have h1:=halli e he hb
    rw[heq]at h1
    rcases Nat.lt_or_ge j listed.size with h'|h'
    ·simp[h']at hjun h1;rw[hjun]at h1;cases h1
    ·simp[Array.getElem?_eq_none h']at h1
   have hrsj:fr=false→rs j=false:=fun hfr=>by
    cases hrj:rs j with
    |false=>rfl
    |true=>
     rcases hrs j oj hoj hji hrj with h|⟨e,he,hb,ho⟩|⟨e,he,hb,ho⟩
     ·rw[hfr]at h;cases h
     ·exact absurd ho (hnot e he hb)
     ·exact absurd ho (hnot2 e he hb)
   intro w hw
   have h2:=Xi hoj (hfree j oj hoj hji hjun hnot) (fun cs b=>hsel i oi cs b hi) (fun cs b=>hsel j oj cs b hoj) hQ hy (h1 w hw)
   have hfree': ∀k ok,ops[k]? =some ok→k≠i→(listed.setIfInBounds j true).getD k true=false→
     (∀e∈ok.after,Region.binds md e=true→e.on≠i)→oi.apart ops ok=true:=fun k ok hk hki hun hno=>by
    refine hfree k ok hk hki ?_ hno
    by_cases hjk:j=k
    ·subst hjk;exact hjun
    ·rw[getD_set_ne true hjk]at hun;exact hun
   refine wpOp_mono (fun a' w' ⟨h3,s',h4,hle,h5⟩=>⟨s',h4,hle,ih (listed.setIfInBounds j true) a' s' hfree' (ready_mono hr (Ne.symm hji)) ?_ ?_⟩) h2
   ·exact h3.imp (fun⟨q1,q2⟩=>⟨q1,fun s2 w2 q3 q4=>q2 s2 w2 (fun hfr=>htr _ _ _ (hle (hrsj hfr)) (q3 hfr)) q4⟩) id
   ·rw[Array.setIfInBounds_comm _ _ hji]
    exact h5
end
theorem SubA.nil(A:AH):SubA [] A:=fun _ _ h=>by cases h
theorem SubA.cons{A B:AH}{b:Nat}{o:Obj}(h:AA B b=some o)(hs:SubA A B):SubA ((b,o)::A) B:=fun x u hl=>by
 simp only[AA]at hl
 split at hl
 ·rename_i e;subst e;rw[h];exact hl
 ·exact hs x u hl
theorem Ty.sub: ∀{A B:AH},Ty A B→SubA A B
 | [],B,_=>SubA.nil B
 |(b,o)::A,B,h=>SubA.cons h.1 h.2.sub
structure SS where
 A:AH
 ν:Nu
 n:Nat
 As:AH
def EB(A0:AH)(h0:AY)(w0:World)(s:SS)(w:World):Prop:=St s.ν s.n s.A w.heap∧Ca A0 h0 s.A w.heap∧BV w0 w∧SubA s.As s.A
def GH(s s':SS):Prop:=SubA s.As s'.As
theorem EB.grew{A0:AH}{h0:AY}{w0:World}: ∀(s:SS) (w w':World),EB A0 h0 w0 s w→Grew w.heap w'.heap→BV w w'→EB A0 h0 w0 s w':=
 fun s w w' ⟨h1,h2,h3,h4⟩ g r=>⟨h1.grew g,h2.trans (Ca.grew g),h3.trans r,h4⟩
theorem GH.refl(s:SS):GH s s:=SubA.refl _
theorem GH.trans(s1 s2 s3:SS)(h1:GH s1 s2)(h2:GH s2 s3):GH s1 s3:=fun b o h=>h2 b o (h1 b o h)
theorem GH.trans'{s s':SS}{C:AH}(h:GH s s')(k:SubA s'.As C):SubA s.As C:=fun b o x=>k b o (h b o x)
theorem LS{ops:Array Oper}{j i:Nat}(h:Pn ops j i=true): ∃o,ops[j]? =some o∧ ∃e∈o.after,Region.binds .any e=true∧e.on=i:=by
 unfold Pn at h
 split at h
 ·rename_i o ho
  rw[Array.any_eq_true']at h
  obtain⟨e,he,h⟩:=h
  simp only[Bool.and_eq_true,beq_iff_eq]at h
  exact⟨o,ho,e,he,h.1,h.2⟩
 ·cases h
theorem Ln{ops:Array Oper}{rs:Nat→Bool}(h:D6 ops rs=true){i j:Nat}{oi oj:Oper}(hi:ops[i]? =some oi)(hj:ops[j]? =some oj)(hji:j≠i)(hr:rs j=true):
  GZ oi.op=true∨(∃e∈oj.after,Region.binds .any e=true∧e.on=i)∨(∃e∈oi.after,Region.binds .any e=true∧e.on=j):=by
 unfold D6 at h
 rw[List.all_eq_true]at h
 have hjl:j<ops.size:=(Array.getElem?_eq_some_iff.1 hj).1
 have hil:i<ops.size:=(Array.getElem?_eq_some_iff.1 hi).1
 have h1:=h j (List.mem_range.2 hjl)
 rw[hr]at h1
 simp only[Bool.not_true,Bool.false_or]at h1
 unfold V3 at h1
 rw[List.all_eq_true]at h1
 have h2:=h1 i (List.mem_range.2 hil)
 simp only[Bool.or_eq_true,beq_iff_eq]at h2
 rcases h2 with((h2|h2)|h2)|h2
 ·exact absurd h2.symm hji
 ·obtain⟨o,ho,e⟩:=LS h2
  rw[hj]at ho;cases ho
  exact .inr (.inl e)
 ·obtain⟨o,ho,e⟩:=LS h2
  rw[hi]at ho;cases ho
  exact .inr (.inr e)
 ·rw[hi]at h2
  exact .inl h2
theorem FG{P:Program}{n:Nat}{o:Oper}{ρ:Ba}{A:AH}{K0:Ba→Prop}(hf:GZ o.op=true)(hs:B4 P n o ρ A K0):B4 P n o ρ [] K0:=by
 obtain⟨dst,op,ty,pos,aft,gd⟩:=o
 unfold B4 at hs⊢
 cases op<;>first|exact hs|cases hf
section
variable {P:Program} {imp:Imp} {nt:Nat} {all:List Oper} {Q:Exit→Act→World→Prop} {A0:AH} {h0:AY} {w0:World} {rs:Nat→Bool} {X:List PanicEntry→AY→Prop}
theorem GV[dd:DefD](hXQ: ∀ch a w,a.defers=DefD.ds→GG imp.X A0 h0 ch w.heap→BV w0 w→Q (.panic ch) a w)(hs:Region.noSelect all.toArray=true)(hrs:D6 all.toArray rs=true)(hQ: ∀c a w dst v,Q (.panic c) (Act.put a dst v) w→Q (.panic c) a w){QA:Act→SS→Prop}{K:Nu→Nat→Ba→AH→Prop}
  (hK: ∀ρ (a:Act) A ν n As,CV nt ρ a→DK ν n A (fun ν'=>K ν' n ρ A)→QA a ⟨A,ν,n,As⟩): ∀(pl:List (Nat×Nat)) (listed:Array Bool) (ρ:Ba) (a:Act) (A As:AH) (ν:Nu) (n:Nat),GQ imp all.toArray rs pl listed=true→CV nt ρ a→Pp ν→
   (∃h,St ν n A h)→DK ν n A (fun ν'=>DM P imp nt all pl As ν' n ρ A K)→Fg P .any all.toArray Q (EB A0 h0 w0) GH rs QA pl.length listed a ⟨A,ν,n,As⟩:=by
 intro pl
 induction pl with
 |nil=>
  intro listed ρ a A As ν n hp hk _ _ f
  exact⟨by simpa[GQ]using hp,hK _ _ _ _ _ _ hk f⟩
 | cons im l ih=>
  obtain⟨i,m⟩:=im
  intro listed ρ a A As ν n hp hk hj hex f
  obtain⟨hh,hst0⟩:=hex
  simp only[GQ,Bool.and_eq_true]at hp
  obtain⟨hp1,hp2⟩:=hp
  cases ho:all[i]? with
  |none=>have h1:=hst0.get f;simp only[DM,ho,EF]at h1
  | some o=>
   have ho':all.toArray[i]? =some o:=by simpa using ho
   rw[ho']at hp1
   simp only at hp1
   have f1:DK ν n A fun ν'=>EF P imp nt all As m ν' n ρ A (fun As ν n ρ' A=>DM P imp nt all l As ν n ρ' A K) (some o):=f.mono fun ν' h1=>by
    simp only[DM,ho]at h1;exact h1
   -- what follows
   have rest: ∀{ρ':Ba} {a':Act} {A' As':AH} {ν':Nu} {n':Nat},CV nt ρ' a'→Pp ν'→(∃h,St ν' n' A' h)→DK ν' n' A' (fun ν''=>DM P imp nt all l As' ν'' n' ρ' A' K)→Fg P .any all.toArray Q (EB A0 h0 w0) GH rs QA l.length (listed.setIfInBounds i true) a' ⟨A',ν',n',As'⟩:=
    fun h1 h2 h3 h4=>ih _ _ _ _ _ _ _ hp2 h1 h2 h3 h4
   have soft: ∀{v:Value} {fr:Bool},Bt imp o.op=true→(fr=true→GZ o.op=true)→(fr=false→GZ o.op=false)→FD P all.toArray (EB A0 h0 w0) GH fr ⟨A,ν,n,As⟩ o v a→Fg P .any all.toArray Q (EB A0 h0 w0) GH rs QA l.length (listed.setIfInBounds i true) (a.put o.dst v) ⟨A,ν,n,As⟩→Fg P .any all.toArray Q (EB A0 h0 w0) GH rs QA (l.length+1) listed a ⟨A,ν,n,As⟩:=by
    intro v fr hsf hf1 hf2 hso hnext
    rw[if_pos hsf]at hp1
    simp only[Bool.and_eq_true]at hp1
    refine MQ (v:=v) EB.grew GH.refl GH.trans ho' (Region.noSelect_spec hs) (fun c a w=>hQ c a w _ _) (fun j oj hoj hji hrj=> ?_) l.length listed a _ (Region.free_spec ho' hp1.2) (by simpa using hp1.1) hso hnext
    rcases Ln hrs ho' hoj hji hrj with h|h
    ·cases fr with
     |true=>exact .inl rfl
     |false=>rw[hf2 rfl]at h;cases h
    ·exact .inr h
   -- an operation that is carried out
   have main:Region.wanted o (yielded all.toArray a.tmps)=true→DK ν n A (fun ν'=>HP P imp nt As m ν' n ρ A (fun As ν n ρ' A=>DM P imp nt all l As ν n ρ' A K) (some o))→Fg P .any all.toArray Q (EB A0 h0 w0) GH rs QA (l.length+1) listed a ⟨A,ν,n,As⟩:=by
    intro hwt f2
    by_cases hsf:Bt imp o.op=true
    ·have f3:DK ν n A fun ν'=>B4 P nt o ρ As fun ρ'=>DM P imp nt all l As ν' n ρ' A K:=f2.mono fun ν' h1=>by
      unfold HP at h1;simp only[hsf,if_true]at h1;exact h1
     have hnext: ∀v,DK ν n A (fun ν'=>BJ nt o.dst v ρ fun ρ'=>DM P imp nt all l As ν' n ρ' A K)→Fg P .any all.toArray Q (EB A0 h0 w0) GH rs QA l.length (listed.setIfInBounds i true) (a.put o.dst v) ⟨A,ν,n,As⟩:=by
      intro v hput
      cases hd:o.dst with
      |none=>
       rw[hd]at hput
       exact rest hk hj ⟨hh,hst0⟩ hput
      |some d=>
       have h1:=hst0.get hput
       rw[hd]at h1 hput
       exact rest (hk.put h1.1 v) hj ⟨hh,hst0⟩ (hput.mono fun ν' h2=>h2.2)
     cases hfs:GZ o.op with
     |true=>
      obtain⟨v,hv,hq⟩:=EH (FG hfs (hst0.get f3))
      exact soft (fr:=true) hsf (fun _=>hfs) (fun h=>by cases h) (.inl ⟨hwt,fun s w _ hw=>hq (fun w'=>Grew w.heap w'.heap∧BV w w') a hk (fun w1 ⟨q1,q2⟩=>⟨DO.nil _,fun w2 q3 q4=>⟨q1.trans q3,q2.trans q4⟩⟩) w ⟨Grew.refl _,BV.refl _⟩⟩) (hnext v (f3.mono fun ν' h1=>(hv _).1 (FG hfs h1)))
     |false=>
      obtain⟨v,hv,hq⟩:=EH (hst0.get f3)
      exact soft (fr:=false) hsf (fun h=>by cases h) (fun _=>hfs) (.inl ⟨hwt,fun s w hle hw=>hq (fun w'=>Grew w.heap w'.heap∧BV w w') a hk (fun w1 ⟨q1,q2⟩=>⟨(hw.1.sat.sub ((hle rfl).trans' hw.2.2.2)).grew q1,fun w2 q3 q4=>⟨q1.trans q3,q2.trans q4⟩⟩) w ⟨Grew.refl _,BV.refl _⟩⟩) (hnext v (f3.mono fun ν' h1=>(hv _).1 h1))
    ·rw[if_neg hsf]at hp1
     simp only[Bool.and_eq_true]at hp1
     obtain⟨hp1,hpm⟩:=hp1
     have hrd:Region.ready .any all.toArray listed=[i]:=by simpa using hp1
     have f3:DK ν n A fun ν'=>Bz P imp nt o ν' n ρ A fun ν n ρ' A'=>En As A' m fun As'=>DM P imp nt all l As' ν n ρ' A' K:=f2.mono fun ν' h1=>by
      unfold HP at h1;simp only[hsf]at h1;exact h1
     refine⟨fun h=>(by rw[hrd]at h;cases h),fun j hj'=> ?_⟩
     rw[hrd]at hj'
     have:j=i:=by simpa using hj'
     subst this
     intro w ⟨hst,hkp,hre,hsub⟩
     unfold wpOp
     simp only[ho']
     rw[if_pos hwt]
     refine .inl ?_
     have hw:=GN (X:=fun ch h'=>GG imp.X A w.heap ch h') (fun _ _ p=>p) (K':=ED (fun ν n ρ' A'=>En As A' m fun As'=>DM P imp nt all l As' ν n ρ' A' K) A w.heap) (fun ρ' h' p=>p) hst f3
     refine FQ (w0:=w0) (fun ch h a w hx hn hwh hr=>by subst hwh;exact hXQ ch a w hn.1 (hx.from hkp) hr) hw hk hre fun ρ' a' w' hp hk' hre' _=> ?_
     obtain⟨ν1,n1,A1,st1,kp1,f4⟩:=hp
     unfold En at f4
     by_cases hm2:m=2
     ·simp only[hm2,if_true]at f4
      rw[if_pos hm2]at hpm
      exact⟨⟨A1,ν1,n1,A1⟩,⟨st1,hkp.trans kp1,hre',SubA.refl _⟩,fun h=>(by rw[hpm]at h;cases h),rest hk' st1.inj ⟨w'.heap,st1⟩ f4⟩
     ·simp only[hm2,if_false]at f4
      have hsub1:=(st1.get f4).1
      by_cases hm1:m=1
      ·simp only[hm1,if_true]at f4
       exact⟨⟨A1,ν1,n1,A1⟩,⟨st1,hkp.trans kp1,hre',SubA.refl _⟩,fun _=>hsub1,rest hk' st1.inj ⟨w'.heap,st1⟩ (f4.mono fun ν' h1=>h1.2)⟩
      ·simp only[hm1,if_false]at f4
       exact⟨⟨A1,ν1,n1,As⟩,⟨st1,hkp.trans kp1,hre',hsub1⟩,fun _=>SubA.refl _,rest hk' st1.inj ⟨w'.heap,st1⟩ (f4.mono fun ν' h1=>h1.2)⟩
   have skip:Region.wanted o (yielded all.toArray a.tmps)=false→DK ν n A (fun ν'=>BJ nt o.dst undef ρ fun ρ'=>DM P imp nt all l As ν' n ρ' A K)→Fg P .any all.toArray Q (EB A0 h0 w0) GH rs QA (l.length+1) listed a ⟨A,ν,n,As⟩:=by
    intro hwt hput
    have hnext:Fg P .any all.toArray Q (EB A0 h0 w0) GH rs QA l.length (listed.setIfInBounds i true) (a.put o.dst undef) ⟨A,ν,n,As⟩:=by
     cases hd:o.dst with
     |none=>
      rw[hd]at hput
      exact rest hk hj ⟨hh,hst0⟩ hput
     |some d=>
      have h1:=hst0.get hput
      rw[hd]at h1 hput
      exact rest (hk.put h1.1 undef) hj ⟨hh,hst0⟩ (hput.mono fun ν' h2=>h2.2)
    by_cases hsf:Bt imp o.op=true
    ·cases hfs:GZ o.op with
     |true=>exact soft (fr:=true) hsf (fun _=>hfs) (fun h=>by cases h) (.inr ⟨hwt,rfl⟩) hnext
     |false=>exact soft (fr:=false) hsf (fun h=>by cases h) (fun _=>hfs) (.inr ⟨hwt,rfl⟩) hnext
    ·rw[if_neg hsf]at hp1
     simp only[Bool.and_eq_true]at hp1
     have hrd:Region.ready .any all.toArray listed=[i]:=by simpa using hp1.1
     refine⟨fun h=>(by rw[hrd]at h;cases h),fun j hj'=> ?_⟩
     rw[hrd]at hj'
     have:j=i:=by simpa using hj'
     subst this
     intro w hw
     unfold wpOp
     simp only[ho']
     rw[if_neg (by rw[hwt];decide)]
     exact⟨_,hw,fun _=>GH.refl _,hnext⟩
   cases hg:o.guard with
   |none=>
    refine main (by unfold Region.wanted;rw[hg]) (f1.mono fun ν' h1=> ?_)
    simp only[EF,hg]at h1
    exact h1
   | some g=>
    obtain⟨j,want⟩:=g
    have f4:DK ν n A fun ν'=>Ay (Cj all j) fun s=>Ay (get ρ s) fun v=>eV want v (HP P imp nt As m ν' n ρ A (fun As ν n ρ' A=>DM P imp nt all l As ν n ρ' A K) (some o)) (BJ nt o.dst undef ρ fun ρ'=>DM P imp nt all l As ν' n ρ' A K):=f1.mono fun ν' h1=>by
     simp only[EF,hg]at h1;exact h1
    obtain⟨s,h1,h0'⟩:=AB (hst0.get f4)
    obtain⟨v,h2,h0'⟩:=AB h0'
    have f5:=B8 h2 (B8 h1 f4)
    have hy:=hk.2.2 s v h2
    have dec:Region.wanted o (yielded all.toArray a.tmps)=(match v with| .bool b=>b==want|_=>false):=by
     unfold Region.wanted
     rw[hg]
     simp only[C1 h1,hy]
     cases v<;>first|rfl|(rename_i b;cases b<;>cases want<;>rfl)
    unfold eV at f5
    cases v with
    |bool b=>
     simp only at dec f5
     cases hb:(b==want)with
     |true=>exact main (by rw[dec,hb]) (f5.mono fun ν' h1=>h1.1 hb)
     |false=>exact skip (by rw[dec,hb]) (f5.mono fun ν' h1=>h1.2 hb)
    |_=>exact skip dec f5
end
end Go.Vm
