/-
The evaluator over known blocks is sound; its equations; append.
Conditions: none.
-/
import Derived.Test.YtgmfcdeknaeikaaGreatDoorVmAD
set_option linter.unusedSimpArgs false
set_option linter.unusedVariables false
set_option linter.defProp false
namespace Go.Vm
section
variable {P:Program} {ops:Array Oper} {Q:Exit→Act→World→Prop} {md:Region.Mode} {σ:Type} {Inv:σ→World→Prop} {le:σ→σ→Prop} {rs:Nat→Bool}
def YW(P:Program)(Q:Exit→Act→World→Prop)(Inv:σ→World→Prop)(le:σ→σ→Prop)(rs:Nat→Bool)(ops:Array Oper)(i:Nat)(a:Act)(s:σ)(K:Act→σ→Prop):Prop:= ∀w,Inv s w→wpOp P ops Q i (fun a' w'=> ∃s',Inv s' w'∧(rs i=false→le s s')∧K a' s') a w
def Fx(P:Program)(md:Region.Mode)(ops:Array Oper)(Q:Exit→Act→World→Prop)(Inv:σ→World→Prop)(le:σ→σ→Prop)(rs:Nat→Bool)(QA:Act→σ→Prop):Nat→Array Bool→Act→σ→Prop
 |0,listed,a,s=>Region.ready md ops listed=[]∧QA a s
 |fuel+1,listed,a,s=>
  (Region.ready md ops listed=[]→QA a s)∧
  ∀i∈Region.ready md ops listed,YW P Q Inv le rs ops i a s fun a' s'=>Fx P md ops Q Inv le rs QA fuel (listed.setIfInBounds i true) a' s'
theorem E6{QA:Act→σ→Prop}(hQ: ∀a s w,QA a s→Inv s w→Q .normal a w): ∀(fuel:Nat) (listed:Array Bool) (a:Act) (s:σ) (w:World),Inv s w→Fx P md ops Q Inv le rs QA fuel listed a s→wpAny P md ops Q fuel listed a w
 |0,_,_,_,_,hi,h=>⟨h.1,hQ _ _ _ h.2 hi⟩
 |fuel+1,_,_,_,_,hi,h=>⟨fun h0=>hQ _ _ _ (h.1 h0) hi,fun i hr=>wpOp_mono (fun a' w' ⟨s',h1,_,h2⟩=>E6 hQ fuel _ a' s' w' h1 h2) (h.2 i hr _ hi)⟩
def FH(P:Program)(ops:Array Oper)(Inv:σ→World→Prop)(le:σ→σ→Prop)(fr:Bool)(s0:σ)(o:Oper)(v:Value)(a:Act):Prop:=
 (Region.wanted o (yielded ops a.tmps)=true∧ ∀s w,(fr=false→le s0 s)→Inv s w→o.quietAt P a (fun w'=>Grew w.heap w'.heap∧Ai w w') w v)∨
 (Region.wanted o (yielded ops a.tmps)=false∧v=undef)
theorem FH.of_same{fr:Bool}{s0:σ}{o:Oper}{v:Value}{a a':Act}(hy:FH P ops Inv le fr s0 o v a)(he:execOp a'.eval o=execOp a.eval o)
  (hw:Region.wanted o (yielded ops a'.tmps)=Region.wanted o (yielded ops a.tmps)):FH P ops Inv le fr s0 o v a':=by
 unfold FH Oper.quietAt at*
 rw[he,hw]
 exact hy
theorem FH.step{fr:Bool}{i:Nat}{o:Oper}{v:Value}{a:Act}(hg: ∀s w w',Inv s w→Grew w.heap w'.heap→Ai w w'→Inv s w')(hi:ops[i]? =some o){s:σ}(hr: ∀s,le s s)(hy:FH P ops Inv le fr s o v a){K:Act→σ→Prop}(h:K (a.put o.dst v) s):YW P Q Inv le rs ops i a s K:=by
 intro w hw
 unfold Go.wpOp
 simp only[hi]
 rcases hy with⟨hwt,hv⟩|⟨hwt,rfl⟩
 ·simp only[hwt,if_true]
  refine .inl ?_
  have h3:=hv s w (fun _=>hr s) hw
  unfold Oper.quietAt at h3
  unfold Oper.wp
  generalize (execOp a.eval o).run P w=r at*
  cases r with
  | ok n w'=>
   cases n<;>simp only[Oper.quietUpon]at h3<;>simp only[Oper.upon]
   case value u=>
    obtain⟨e1,e2⟩:=h3
    rw[e1,e2]
    exact⟨s,hw,fun _=>hr s,h⟩
   case skip=>
    obtain⟨e1,e2⟩:=h3
    rw[e1,←e2]
    exact⟨s,hw,fun _=>hr s,h⟩
   case enter f args=>
    obtain⟨e1,hc⟩:=h3
    rw[e1]
    exact hc.mono fun e w'' ⟨he,hw'',hr'⟩=>by subst he;exact⟨s,hg s w w'' hw hw'' hr',fun _=>hr s,h⟩
  |halt x w'=>simp only[Oper.quietUpon]at h3
 ·simp only[hwt,Bool.false_eq_true,if_false]
  exact⟨s,hw,fun _=>hr s,h⟩
theorem YD{fr:Bool}{s0:σ}{j:Nat}{oi oj:Oper}{v:Value}(hj:ops[j]? =some oj)(hap:oi.apart ops oj=true)
  (hsi: ∀cs b,oi.op≠ .select cs b) (hsj: ∀cs b,oj.op≠ .select cs b)
  (hQ: ∀c a w,Q (.panic c) (a.put oi.dst v) w→Q (.panic c) a w) {K:Act→World→Prop} {a:Act} {w:World}
  (hy:FH P ops Inv le fr s0 oi v a) (h:wpOp P ops Q j K (a.put oi.dst v) w):
  wpOp P ops Q j (fun a' w'=>FH P ops Inv le fr s0 oi v a'∧K (a'.put oi.dst v) w') a w:=by
 obtain⟨h1,h2,h3⟩:=Oper.apart_spec hap
 have keep: ∀(a:Act),FH P ops Inv le fr s0 oi v a→ ∀u,FH P ops Inv le fr s0 oi v (a.put oj.dst u):=fun a hy u=>
  hy.of_same (execOp_put oi hsi a oj.dst u h3) (wanted_put oi a oj.dst u h3)
 have keepD: ∀d,FH P ops Inv le fr s0 oi v {a with defers:=d::a.defers}:=fun d=>hy.of_same rfl rfl
 unfold wpOp at*
 simp only[hj]at*
 rw[wanted_put oj a oi.dst v h1]at h
 split
 ·rename_i hw
  simp only[hw,if_true]at h
  rcases h with h|⟨hasks,hlets⟩
  case inr=>exact .inr ⟨by unfold Oper.asks at *;rw[execOp_put oj hsj a oi.dst v h1]at hasks;exact hasks,hlets⟩
  refine .inl ?_
  unfold Oper.wp at*
  rw[execOp_put oj hsj a oi.dst v h1]at h
  generalize (execOp a.eval oj).run P w=r at*
  cases r with
  | ok n w'=>
   cases n<;>simp only[Oper.upon]at h⊢
   case value u=>exact⟨keep a hy u,by rw[←Act.put_comm a v u h2];exact h⟩
   case skip=>exact⟨keep a hy _,by rw[←Act.put_comm a v undef h2];exact h⟩
   case defer d=>
    refine⟨keep _ (keepD d) _, ?_⟩
    rw[←Act.put_comm _ v undef h2,←Act.put_defers]
    exact h
   case enter f args=>
    refine Calls.mono h fun e w'' he=> ?_
    cases e with
    |returned u=>exact⟨keep a hy u,by rw[←Act.put_comm a v u h2];exact he⟩
    |panicked c=>exact hQ _ _ _ he
    |outgrown=>exact he
   case row row args=>exact Rows.mono h fun u w'' he=>⟨keep a hy u,by rw[←Act.put_comm a v u h2];exact he⟩
  |halt x w'=>
   cases x<;>simp only[Oper.upon]at h⊢
   case panic u=>exact hQ _ _ _ h
 ·rename_i hw
  simp only[hw]at h
  exact⟨keep a hy _,by rw[←Act.put_comm a v undef h2];exact h⟩
theorem LY{QA:Act→σ→Prop}(hg: ∀s w w',Inv s w→Grew w.heap w'.heap→Ai w w'→Inv s w')(hrf: ∀s,le s s)(htr: ∀s1 s2 s3,le s1 s2→le s2 s3→le s1 s3){fr:Bool}{i:Nat}{oi:Oper}{v:Value}(hi:ops[i]? =some oi)(hsel: ∀(j:Nat) (o:Oper) cs b,ops[j]? =some o→o.op≠ .select cs b)
  (hQ: ∀c a w,Q (.panic c) (a.put oi.dst v) w→Q (.panic c) a w)
  (hrs: ∀(j:Nat) (oj:Oper),ops[j]? =some oj→j≠i→rs j=true→fr=true∨(∃e∈oj.after,Region.binds md e=true∧e.on=i)∨(∃e∈oi.after,Region.binds md e=true∧e.on=j)):
  ∀(fuel:Nat) (listed:Array Bool) (a:Act) (s:σ),
   (∀j oj,ops[j]? =some oj→j≠i→listed.getD j true=false→(∀e∈oj.after,Region.binds md e=true→e.on≠i)→oi.apart ops oj=true)→
   i∈Region.ready md ops listed→FH P ops Inv le fr s oi v a→
   Fx P md ops Q Inv le rs QA fuel (listed.setIfInBounds i true) (a.put oi.dst v) s→Fx P md ops Q Inv le rs QA (fuel+1) listed a s:=by
 intro fuel
 induction fuel with
 | zero=>
  intro listed a s _ hr hy H
  refine⟨fun h=>(by rw[h]at hr;cases hr),fun j hj=> ?_⟩
  by_cases hji:j=i
  ·subst hji;exact hy.step hg hi hrf H
  ·have:=ready_mono hj hji
   rw[H.1]at this
   cases this
 | succ fuel ih=>
  intro listed a s hfree hr hy H
  refine⟨fun h=>(by rw[h]at hr;cases hr),fun j hj=> ?_⟩
  by_cases hji:j=i
  ·subst hji;exact hy.step hg hi hrf H
  ·have h1:=H.2 j (ready_mono hj hji)
   obtain⟨hjun,oj,hoj,hall⟩:=mem_ready.1 hj
   obtain⟨hiun,oi',hoi',halli⟩:=mem_ready.1 hr
   rw[hi]at hoi'
   cases hoi'
   have hnot: ∀e∈oj.after,Region.binds md e=true→e.on≠i:=fun e he hb heq=>by
    have h1:=hall e he hb
    have h0:=(mem_ready.1 hr).1
    rw[heq]at h1
    rcases Nat.lt_or_ge i listed.size with h'|h'
    ·simp[h']at h0 h1;rw[h0]at h1;cases h1
    ·simp[Array.getElem?_eq_none h']at h1
   have hnot2: ∀e∈oi.after,Region.binds md e=true→e.on≠j:=fun e he hb heq=>by
    have h1:=halli e he hb
    rw[heq]at h1
    rcases Nat.lt_or_ge j listed.size with h'|h'
    ·simp[h']at hjun h1;rw[hjun]at h1;cases h1
    ·simp[Array.getElem?_eq_none h']at h1
   have hrsj:fr=false→rs j=false:=fun hfr=>by
    cases hrj:rs j with
    |false=>rfl
    |true=>
     rcases hrs j oj hoj hji hrj with h|⟨e,he,hb,ho⟩|⟨e,he,hb,ho⟩
     ·rw[hfr]at h;cases h
     ·exact absurd ho (hnot e he hb)
     ·exact absurd ho (hnot2 e he hb)
   intro w hw
   have h2:=YD hoj (hfree j oj hoj hji hjun hnot) (fun cs b=>hsel i oi cs b hi) (fun cs b=>hsel j oj cs b hoj) hQ hy (h1 w hw)
   have hfree': ∀k ok,ops[k]? =some ok→k≠i→(listed.setIfInBounds j true).getD k true=false→
     (∀e∈ok.after,Region.binds md e=true→e.on≠i)→oi.apart ops ok=true:=fun k ok hk hki hun hno=>by
    refine hfree k ok hk hki ?_ hno
    by_cases hjk:j=k
    ·subst hjk;exact hjun
    ·rw[getD_set_ne true hjk]at hun;exact hun
   refine wpOp_mono (fun a' w' ⟨h3,s',h4,hle,h5⟩=>⟨s',h4,hle,ih (listed.setIfInBounds j true) a' s' hfree' (ready_mono hr (Ne.symm hji)) ?_ ?_⟩) h2
   ·exact h3.imp (fun⟨q1,q2⟩=>⟨q1,fun s2 w2 q3 q4=>q2 s2 w2 (fun hfr=>htr _ _ _ (hle (hrsj hfr)) (q3 hfr)) q4⟩) id
   ·rw[Array.setIfInBounds_comm _ _ hji]
    exact h5
end
theorem SubA.nil(A:AH):SubA [] A:=fun _ _ h=>by cases h
theorem SubA.cons{A B:AH}{b:Nat}{o:Obj}(h:AA B b=some o)(hs:SubA A B):SubA ((b,o)::A) B:=fun x u hl=>by
 simp only[AA]at hl
 split at hl
 ·rename_i e;subst e;rw[h];exact hl
 ·exact hs x u hl
theorem Mr.sub: ∀{A B:AH},Mr A B→SubA A B
 | [],B,_=>SubA.nil B
 |(b,o)::A,B,h=>SubA.cons h.1 h.2.sub
structure SS where
 A:AH
 ν:Nu
 n:Nat
 As:AH
def Dt(A0:AH)(h0:AL)(w0:World)(s:SS)(w:World):Prop:=St s.ν s.n s.A w.heap∧BN A0 h0 s.A w.heap∧Ai w0 w∧SubA s.As s.A
def Gf(s s':SS):Prop:=SubA s.As s'.As
theorem Dt.grew{A0:AH}{h0:AL}{w0:World}: ∀(s:SS) (w w':World),Dt A0 h0 w0 s w→Grew w.heap w'.heap→Ai w w'→Dt A0 h0 w0 s w':=
 fun s w w' ⟨h1,h2,h3,h4⟩ g r=>⟨h1.grew g,h2.trans (BN.grew g),h3.trans r,h4⟩
theorem Gf.refl(s:SS):Gf s s:=SubA.refl _
theorem Gf.trans(s1 s2 s3:SS)(h1:Gf s1 s2)(h2:Gf s2 s3):Gf s1 s3:=fun b o h=>h2 b o (h1 b o h)
theorem Gf.trans'{s s':SS}{C:AH}(h:Gf s s')(k:SubA s'.As C):SubA s.As C:=fun b o x=>k b o (h b o x)
theorem Mg{ops:Array Oper}{j i:Nat}(h:PX ops j i=true): ∃o,ops[j]? =some o∧ ∃e∈o.after,Region.binds .any e=true∧e.on=i:=by
 unfold PX at h
 split at h
 ·rename_i o ho
  rw[Array.any_eq_true']at h
  obtain⟨e,he,h⟩:=h
  simp only[Bool.and_eq_true,beq_iff_eq]at h
  exact⟨o,ho,e,he,h.1,h.2⟩
 ·cases h
theorem ML{ops:Array Oper}{rs:Nat→Bool}(h:Dr ops rs=true){i j:Nat}{oi oj:Oper}(hi:ops[i]? =some oi)(hj:ops[j]? =some oj)(hji:j≠i)(hr:rs j=true):
  Gx oi.op=true∨(∃e∈oj.after,Region.binds .any e=true∧e.on=i)∨(∃e∈oi.after,Region.binds .any e=true∧e.on=j):=by
 unfold Dr at h
 rw[List.all_eq_true]at h
 have hjl:j<ops.size:=(Array.getElem?_eq_some_iff.1 hj).1
 have hil:i<ops.size:=(Array.getElem?_eq_some_iff.1 hi).1
 have h1:=h j (List.mem_range.2 hjl)
 rw[hr]at h1
 simp only[Bool.not_true,Bool.false_or]at h1
 unfold U2 at h1
 rw[List.all_eq_true]at h1
 have h2:=h1 i (List.mem_range.2 hil)
 simp only[Bool.or_eq_true,beq_iff_eq]at h2
 rcases h2 with((h2|h2)|h2)|h2
 ·exact absurd h2.symm hji
 ·obtain⟨o,ho,e⟩:=Mg h2
  rw[hj]at ho;cases ho
  exact .inr (.inl e)
 ·obtain⟨o,ho,e⟩:=Mg h2
  rw[hi]at ho;cases ho
  exact .inr (.inr e)
 ·rw[hi]at h2
  exact .inl h2
theorem Fe{P:Program}{n:Nat}{o:Oper}{ρ:Ak}{A:AH}{K0:Ak→Prop}(hf:Gx o.op=true)(hs:BF P n o ρ A K0):BF P n o ρ [] K0:=by
 obtain⟨dst,op,ty,pos,aft,gd⟩:=o
 unfold BF at hs⊢
 cases op<;>first|exact hs|cases hf
section
variable {P:Program} {imp:Imp} {nt:Nat} {all:List Oper} {Q:Exit→Act→World→Prop} {A0:AH} {h0:AL} {w0:World} {rs:Nat→Bool} {X:List PanicEntry→AL→Prop}
theorem Gt[dd:DefD](hXQ: ∀ch a w,a.defers=DefD.ds→Gc imp.X A0 h0 ch w.heap→Ai w0 w→Q (.panic ch) a w)(hs:Region.noSelect all.toArray=true)(hrs:Dr all.toArray rs=true)(hQ: ∀c a w dst v,Q (.panic c) (Act.put a dst v) w→Q (.panic c) a w){QA:Act→SS→Prop}{K:Nu→Nat→Ak→AH→Prop}
  (hK: ∀ρ (a:Act) A ν n As,BO nt ρ a→Ca ν n A (fun ν'=>K ν' n ρ A)→QA a ⟨A,ν,n,As⟩): ∀(pl:List (Nat×Nat)) (listed:Array Bool) (ρ:Ak) (a:Act) (A As:AH) (ν:Nu) (n:Nat),G7 imp all.toArray rs pl listed=true→BO nt ρ a→OE ν→
   (∃h,St ν n A h)→Ca ν n A (fun ν'=>Cf P imp nt all pl As ν' n ρ A K)→Fx P .any all.toArray Q (Dt A0 h0 w0) Gf rs QA pl.length listed a ⟨A,ν,n,As⟩:=by
 intro pl
 induction pl with
 |nil=>
  intro listed ρ a A As ν n hp hk _ _ f
  exact⟨by simpa[G7]using hp,hK _ _ _ _ _ _ hk f⟩
 | cons im l ih=>
  obtain⟨i,m⟩:=im
  intro listed ρ a A As ν n hp hk hj hex f
  obtain⟨hh,hst0⟩:=hex
  simp only[G7,Bool.and_eq_true]at hp
  obtain⟨hp1,hp2⟩:=hp
  cases ho:all[i]? with
  |none=>have h1:=hst0.get f;simp only[Cf,ho,D6]at h1
  | some o=>
   have ho':all.toArray[i]? =some o:=by simpa using ho
   rw[ho']at hp1
   simp only at hp1
   have f1:Ca ν n A fun ν'=>D6 P imp nt all As m ν' n ρ A (fun As ν n ρ' A=>Cf P imp nt all l As ν n ρ' A K) (some o):=f.mono fun ν' h1=>by
    simp only[Cf,ho]at h1;exact h1
   -- what follows
   have rest: ∀{ρ':Ak} {a':Act} {A' As':AH} {ν':Nu} {n':Nat},BO nt ρ' a'→OE ν'→(∃h,St ν' n' A' h)→Ca ν' n' A' (fun ν''=>Cf P imp nt all l As' ν'' n' ρ' A' K)→Fx P .any all.toArray Q (Dt A0 h0 w0) Gf rs QA l.length (listed.setIfInBounds i true) a' ⟨A',ν',n',As'⟩:=
    fun h1 h2 h3 h4=>ih _ _ _ _ _ _ _ hp2 h1 h2 h3 h4
   have soft: ∀{v:Value} {fr:Bool},A8 imp o.op=true→(fr=true→Gx o.op=true)→(fr=false→Gx o.op=false)→FH P all.toArray (Dt A0 h0 w0) Gf fr ⟨A,ν,n,As⟩ o v a→Fx P .any all.toArray Q (Dt A0 h0 w0) Gf rs QA l.length (listed.setIfInBounds i true) (a.put o.dst v) ⟨A,ν,n,As⟩→Fx P .any all.toArray Q (Dt A0 h0 w0) Gf rs QA (l.length+1) listed a ⟨A,ν,n,As⟩:=by
    intro v fr hsf hf1 hf2 hso hnext
    rw[if_pos hsf]at hp1
    simp only[Bool.and_eq_true]at hp1
    refine LY (v:=v) Dt.grew Gf.refl Gf.trans ho' (Region.noSelect_spec hs) (fun c a w=>hQ c a w _ _) (fun j oj hoj hji hrj=> ?_) l.length listed a _ (Region.free_spec ho' hp1.2) (by simpa using hp1.1) hso hnext
    rcases ML hrs ho' hoj hji hrj with h|h
    ·cases fr with
     |true=>exact .inl rfl
     |false=>rw[hf2 rfl]at h;cases h
    ·exact .inr h
   -- an operation that is carried out
   have main:Region.wanted o (yielded all.toArray a.tmps)=true→Ca ν n A (fun ν'=>Hv P imp nt As m ν' n ρ A (fun As ν n ρ' A=>Cf P imp nt all l As ν n ρ' A K) (some o))→Fx P .any all.toArray Q (Dt A0 h0 w0) Gf rs QA (l.length+1) listed a ⟨A,ν,n,As⟩:=by
    intro hwt f2
    by_cases hsf:A8 imp o.op=true
    ·have f3:Ca ν n A fun ν'=>BF P nt o ρ As fun ρ'=>Cf P imp nt all l As ν' n ρ' A K:=f2.mono fun ν' h1=>by
      unfold Hv at h1;simp only[hsf,if_true]at h1;exact h1
     have hnext: ∀v,Ca ν n A (fun ν'=>Ac nt o.dst v ρ fun ρ'=>Cf P imp nt all l As ν' n ρ' A K)→Fx P .any all.toArray Q (Dt A0 h0 w0) Gf rs QA l.length (listed.setIfInBounds i true) (a.put o.dst v) ⟨A,ν,n,As⟩:=by
      intro v hput
      cases hd:o.dst with
      |none=>
       rw[hd]at hput
       exact rest hk hj ⟨hh,hst0⟩ hput
      |some d=>
       have h1:=hst0.get hput
       rw[hd]at h1 hput
       exact rest (hk.put h1.1 v) hj ⟨hh,hst0⟩ (hput.mono fun ν' h2=>h2.2)
     cases hfs:Gx o.op with
     |true=>
      obtain⟨v,hv,hq⟩:=D9 (Fe hfs (hst0.get f3))
      exact soft (fr:=true) hsf (fun _=>hfs) (fun h=>by cases h) (.inl ⟨hwt,fun s w _ hw=>hq (fun w'=>Grew w.heap w'.heap∧Ai w w') a hk (fun w1 ⟨q1,q2⟩=>⟨CQ.nil _,fun w2 q3 q4=>⟨q1.trans q3,q2.trans q4⟩⟩) w ⟨Grew.refl _,Ai.refl _⟩⟩) (hnext v (f3.mono fun ν' h1=>(hv _).1 (Fe hfs h1)))
     |false=>
      obtain⟨v,hv,hq⟩:=D9 (hst0.get f3)
      exact soft (fr:=false) hsf (fun h=>by cases h) (fun _=>hfs) (.inl ⟨hwt,fun s w hle hw=>hq (fun w'=>Grew w.heap w'.heap∧Ai w w') a hk (fun w1 ⟨q1,q2⟩=>⟨(hw.1.sat.sub ((hle rfl).trans' hw.2.2.2)).grew q1,fun w2 q3 q4=>⟨q1.trans q3,q2.trans q4⟩⟩) w ⟨Grew.refl _,Ai.refl _⟩⟩) (hnext v (f3.mono fun ν' h1=>(hv _).1 h1))
    ·rw[if_neg hsf]at hp1
     simp only[Bool.and_eq_true]at hp1
     obtain⟨hp1,hpm⟩:=hp1
     have hrd:Region.ready .any all.toArray listed=[i]:=by simpa using hp1
     have f3:Ca ν n A fun ν'=>BC P imp nt o ν' n ρ A fun ν n ρ' A'=>Ep As A' m fun As'=>Cf P imp nt all l As' ν n ρ' A' K:=f2.mono fun ν' h1=>by
      unfold Hv at h1;simp only[hsf]at h1;exact h1
     refine⟨fun h=>(by rw[hrd]at h;cases h),fun j hj'=> ?_⟩
     rw[hrd]at hj'
     have:j=i:=by simpa using hj'
     subst this
     intro w ⟨hst,hkp,hre,hsub⟩
     unfold wpOp
     simp only[ho']
     rw[if_pos hwt]
     refine .inl ?_
     have hw:=HA (X:=fun ch h'=>Gc imp.X A w.heap ch h') (fun _ _ p=>p) (K':=Dx (fun ν n ρ' A'=>Ep As A' m fun As'=>Cf P imp nt all l As' ν n ρ' A' K) A w.heap) (fun ρ' h' p=>p) hst f3
     refine Ff (w0:=w0) (fun ch h a w hx hn hwh hr=>by subst hwh;exact hXQ ch a w hn.1 (hx.from hkp) hr) hw hk hre fun ρ' a' w' hp hk' hre' _=> ?_
     obtain⟨ν1,n1,A1,st1,kp1,f4⟩:=hp
     unfold Ep at f4
     by_cases hm2:m=2
     ·simp only[hm2,if_true]at f4
      rw[if_pos hm2]at hpm
      exact⟨⟨A1,ν1,n1,A1⟩,⟨st1,hkp.trans kp1,hre',SubA.refl _⟩,fun h=>(by rw[hpm]at h;cases h),rest hk' st1.inj ⟨w'.heap,st1⟩ f4⟩
     ·simp only[hm2,if_false]at f4
      have hsub1:=(st1.get f4).1
      by_cases hm1:m=1
      ·simp only[hm1,if_true]at f4
       exact⟨⟨A1,ν1,n1,A1⟩,⟨st1,hkp.trans kp1,hre',SubA.refl _⟩,fun _=>hsub1,rest hk' st1.inj ⟨w'.heap,st1⟩ (f4.mono fun ν' h1=>h1.2)⟩
      ·simp only[hm1,if_false]at f4
       exact⟨⟨A1,ν1,n1,As⟩,⟨st1,hkp.trans kp1,hre',hsub1⟩,fun _=>SubA.refl _,rest hk' st1.inj ⟨w'.heap,st1⟩ (f4.mono fun ν' h1=>h1.2)⟩
   have skip:Region.wanted o (yielded all.toArray a.tmps)=false→Ca ν n A (fun ν'=>Ac nt o.dst undef ρ fun ρ'=>Cf P imp nt all l As ν' n ρ' A K)→Fx P .any all.toArray Q (Dt A0 h0 w0) Gf rs QA (l.length+1) listed a ⟨A,ν,n,As⟩:=by
    intro hwt hput
    have hnext:Fx P .any all.toArray Q (Dt A0 h0 w0) Gf rs QA l.length (listed.setIfInBounds i true) (a.put o.dst undef) ⟨A,ν,n,As⟩:=by
     cases hd:o.dst with
     |none=>
      rw[hd]at hput
      exact rest hk hj ⟨hh,hst0⟩ hput
     |some d=>
      have h1:=hst0.get hput
      rw[hd]at h1 hput
      exact rest (hk.put h1.1 undef) hj ⟨hh,hst0⟩ (hput.mono fun ν' h2=>h2.2)
    by_cases hsf:A8 imp o.op=true
    ·cases hfs:Gx o.op with
     |true=>exact soft (fr:=true) hsf (fun _=>hfs) (fun h=>by cases h) (.inr ⟨hwt,rfl⟩) hnext
     |false=>exact soft (fr:=false) hsf (fun h=>by cases h) (fun _=>hfs) (.inr ⟨hwt,rfl⟩) hnext
    ·rw[if_neg hsf]at hp1
     simp only[Bool.and_eq_true]at hp1
     have hrd:Region.ready .any all.toArray listed=[i]:=by simpa using hp1.1
     refine⟨fun h=>(by rw[hrd]at h;cases h),fun j hj'=> ?_⟩
     rw[hrd]at hj'
     have:j=i:=by simpa using hj'
     subst this
     intro w hw
     unfold wpOp
     simp only[ho']
     rw[if_neg (by rw[hwt];decide)]
     exact⟨_,hw,fun _=>Gf.refl _,hnext⟩
   cases hg:o.guard with
   |none=>
    refine main (by unfold Region.wanted;rw[hg]) (f1.mono fun ν' h1=> ?_)
    simp only[D6,hg]at h1
    exact h1
   | some g=>
    obtain⟨j,want⟩:=g
    have f4:Ca ν n A fun ν'=>AZ (Bq all j) fun s=>AZ (get ρ s) fun v=>eP want v (Hv P imp nt As m ν' n ρ A (fun As ν n ρ' A=>Cf P imp nt all l As ν n ρ' A K) (some o)) (Ac nt o.dst undef ρ fun ρ'=>Cf P imp nt all l As ν' n ρ' A K):=f1.mono fun ν' h1=>by
     simp only[D6,hg]at h1;exact h1
    obtain⟨s,h1,h0'⟩:=AB (hst0.get f4)
    obtain⟨v,h2,h0'⟩:=AB h0'
    have f5:=BL h2 (BL h1 f4)
    have hy:=hk.2.2 s v h2
    have dec:Region.wanted o (yielded all.toArray a.tmps)=(match v with| .bool b=>b==want|_=>false):=by
     unfold Region.wanted
     rw[hg]
     simp only[B9 h1,hy]
     cases v<;>first|rfl|(rename_i b;cases b<;>cases want<;>rfl)
    unfold eP at f5
    cases v with
    |bool b=>
     simp only at dec f5
     cases hb:(b==want)with
     |true=>exact main (by rw[dec,hb]) (f5.mono fun ν' h1=>h1.1 hb)
     |false=>exact skip (by rw[dec,hb]) (f5.mono fun ν' h1=>h1.2 hb)
    |_=>exact skip dec f5
end
end Go.Vm
namespace Go.Vm
theorem G6{P:Program}{imp:Imp}{plans:List (Nat×Pln)}{id:Nat}: ∀{k k':List It},Bz id k=some k'→M5 P imp plans k=true→M5 P imp plans k'=true
 | [],_,h,_=>by cases h
 | .blk i::k,k',h,hk=>by
  simp only[M5,Bool.and_eq_true]at hk
  unfold Bz at h
  split at h
  ·cases h;exact hk.2
  ·exact G6 h hk.2
 | .code x::k,k',h,hk=>by simp only[M5,Bool.and_eq_true]at hk;exact G6 (by simpa[Bz]using h) hk.2
 | .lp x::k,k',h,hk=>by simp only[M5,Bool.and_eq_true]at hk;exact G6 (by simpa[Bz]using h) hk.2
 | .sc x::k,k',h,hk=>by simp only[M5,Bool.and_eq_true]at hk;exact G6 (by simpa[Bz]using h) hk.2
theorem Vz[dd:DefD]{P:Program}{nt:Nat}{sp:Bool}{all:List Oper}{ν:Nu}{n:Nat}{A:AH}{h:AL}(st:St ν n A h): ∀{m:Nat} {cur:Option (Nat×Bool)} {l:List Oper} {ρ:Ak} {K:Nu→Ak→Prop} {K':Ak→Prop},
  (∀ρ',Ca ν n A (fun ν'=>K ν' ρ')→K' ρ')→Ca ν n A (fun ν'=>BJ P nt sp all A m cur l ρ (K ν'))→BJ P nt sp all A m cur l ρ K':=by
 intro m
 induction m with
 |zero=>intro cur l ρ K K' hK f;exact(st.get f).elim
 | succ m ih=>
  intro cur l ρ K K' hK f
  cases l with
  |nil=>exact hK _ f
  | cons o l=>
   have h0:=st.get f
   unfold BJ at h0⊢
   by_cases hg:o.guard=cur
   ·rw[if_pos hg]at h0⊢
    have f1:Ca ν n A fun ν'=>BF P nt o ρ A fun ρ'=>BJ P nt sp all A m cur l ρ' (K ν'):=f.mono fun ν' h1=>by
     unfold BJ at h1;rw[if_pos hg]at h1;exact h1
    obtain⟨v,hv,_⟩:=D9 h0
    refine(hv _).2 ?_
    have f2:Ca ν n A fun ν'=>Ac nt o.dst v ρ fun ρ'=>BJ P nt sp all A m cur l ρ' (K ν'):=f1.mono fun ν' h1=>(hv _).1 h1
    cases hd:o.dst with
    |none=>rw[hd]at f2;exact ih hK f2
    |some d=>rw[hd]at f2;exact⟨(st.get f2).1,ih hK (f2.mono fun ν' h1=>h1.2)⟩
   ·rw [if_neg hg]at h0⊢
    cases hgd:o.guard with
    |none=>rw[hgd]at h0;exact h0.elim
    | some jw=>
     obtain⟨j,want⟩:=jw
     rw[hgd]at h0
     simp only at h0⊢
     obtain⟨s,hs,h0⟩:=AB h0
     obtain⟨v,hv,h0⟩:=AB h0
     cases v with
     | bool b=>
      obtain⟨hok,h0⟩:=h0
      have f1:Ca ν n A fun ν'=>(match Fc sp (A7 cur (o::l)),BQ cur (o::l)with
        |true,p::after=>match Bv want s p.op with
         |some y=>BJ P nt sp all A m (some (j,want)) (A7 cur (o::l)) ρ (fun ρ'=>AZ (Aa ρ' y) fun c=>CO nt p.dst want b c (Ck (A7 cur (o::l)) ρ) fun ρ''=>BJ P nt sp all A m cur after ρ'' (K ν'))
         |none=>False
        |_,after=>KJ (b==want) (BJ P nt sp all A m (some (j,want)) (A7 cur (o::l)) ((s,some (.bool want))::ρ) (fun ρ'=>BJ P nt sp all A m cur after ρ' (K ν'))) (BJ P nt sp all A m cur after (Ck (A7 cur (o::l)) ((s,some (.bool (!want)))::ρ)) (K ν'))):=f.mono fun ν' h1=>by
       unfold BJ at h1
       rw[if_neg hg,hgd]at h1
       simp only at h1
       exact((AQ hv _).1 ((AQ hs _).1 h1)).2
      refine(AQ hs _).2 ((AQ hv _).2 ⟨hok, ?_⟩)
      generalize hgr:A7 cur (o::l)=g at*
      generalize haf:BQ cur (o::l)=aft at*
      cases hpu:Fc sp g with
      | true=>
       cases aft with
       | cons p after=>
        simp only[hpu]at f1 h0⊢
        cases hy:Bv want s p.op with
        |none=>simp only[hy]at h0
        | some y=>
         simp only[hy]at f1⊢
         refine ih (K:=fun ν' ρ'=>AZ (Aa ρ' y) fun c=>CO nt p.dst want b c (Ck g ρ) fun ρ''=>BJ P nt sp all A m cur after ρ'' (K ν')) (fun ρ' f3=> ?_) f1
         obtain⟨c,hc,h3⟩:=AB (st.get f3)
         refine(AQ hc _).2 ?_
         have f4:=BL hc f3
         unfold CO at h3 f4⊢
         cases c with
         |bool c=>
          simp only at h3 f4⊢
          cases hd:p.dst with
          |none=>rw[hd]at f4;exact ih hK f4
          |some d=>rw[hd]at f4;exact⟨(st.get f4).1,ih hK (f4.mono fun ν' h1=>h1.2)⟩
         |_=>exact h3.elim
       |nil=>
        simp only[hpu]at f1 h0⊢
        refine⟨fun q=> ?_,fun q=>ih hK (f1.mono fun ν' h1=>h1.2 q)⟩
        exact ih (K:=fun ν' ρ'=>BJ P nt sp all A m cur [] ρ' (K ν')) (fun ρ' f2=>ih hK f2) (f1.mono fun ν' h1=>h1.1 q)
      |false=>
       simp only[hpu]at f1 h0⊢
       refine⟨fun q=> ?_,fun q=>ih hK (f1.mono fun ν' h1=>h1.2 q)⟩
       exact ih (K:=fun ν' ρ'=>BJ P nt sp all A m cur aft ρ' (K ν')) (fun ρ' f2=>ih hK f2) (f1.mono fun ν' h1=>h1.1 q)
     |_=>exact h0.elim
theorem OQ[dd:DefD](c:CxA): ∀(N:Nat) (k:List It) (ρ:Ak) (A:AH) (n:Nat) (ν:Nu) (h:AL),M5 c.P c.imp c.plans k=true→J1 k≤N→St ν n A h→Ca ν n A (fun ν'=>Az c k ν' n ρ A)→ ∀A0 h0,BN A0 h0 A h→den (c.cx A0 h0) k ρ h:=by
 intro N
 induction N with
 | zero=>
  intro k ρ A n ν h hok hN st f A0 h0 kp
  have:k=[]:=by
   cases k with
   |nil=>rfl
   |cons x k=>
    simp only[J1]at hN
    have:0<Lw x:=by cases x<;>simp[Lw];rename_i c;cases c<;>simp[Hl]
    omega
  subst this
  have h1:=st.get f
  rw[Az]at h1
  rw[den]
  obtain⟨vs,hv,hR⟩:=AB h1
  exact(AQ (GA st.sat hv) _).2 (Qx ⟨_,A,rfl,st.sat,kp,hR⟩)
 | succ N ih=>
  intro k ρ A n ν h hok hN st f A0 h0 kp
  have ret:(∀ν',Az c k ν' n ρ A=XX c ρ A)→den (c.cx A0 h0) k ρ h=TJ (c.cx A0 h0) ρ h→den (c.cx A0 h0) k ρ h:=by
   intro e1 e2
   have h1:=st.get f
   rw[e1]at h1
   rw[e2]
   obtain⟨vs,hv,hR⟩:=AB h1
   exact(AQ (GA st.sat hv) _).2 (Qx ⟨_,A,rfl,st.sat,kp,hR⟩)
  cases k with
  |nil=>exact ret (fun ν'=>by rw[Az]) (by rw[den])
  | cons x k=>
   simp only[J1]at hN
   simp only[M5,Bool.and_eq_true]at hok
   obtain⟨hx,hok⟩:=hok
   cases x with
   |blk id=>
    rw[den]
    exact ih k ρ A n ν h hok (by simp only[Lw]at hN;omega) st (f.mono fun ν' h1=>by rw[Az]at h1;exact h1) A0 h0 kp
   |sc y=>
    rw[den]
    exact ih k ρ A n ν h hok (by simp only[Lw]at hN;omega) st (f.mono fun ν' h1=>by rw[Az]at h1;exact h1) A0 h0 kp
   |lp y=>
    rw[den]
    have h1:=st.get f
    rw[Az]at h1
    exact h1 A0 h0 h st.sat kp
   | code y=>
    simp only[Lw]at hN
    cases y with
    |skip=>
     rw[den]
     exact ih k ρ A n ν h hok (by simp only[Hl]at hN;omega) st (f.mono fun ν' h1=>by rw[Az]at h1;exact h1) A0 h0 kp
    |label l=>
     rw[den]
     exact ih k ρ A n ν h hok (by simp only[Hl]at hN;omega) st (f.mono fun ν' h1=>by rw[Az]at h1;exact h1) A0 h0 kp
    |ret=>exact ret (fun ν'=>by rw[Az]) (by rw[den])
    |seq x y=>
     rw[den]
     exact ih (.code x:: .code y::k) ρ A n ν h (by simp only[Wi,Qi,Bool.and_eq_true]at hx;simp only[M5,Wi,hx,hok,Bool.and_self]) (by simp only[Hl,J1,Lw]at hN ⊢;omega) st (f.mono fun ν' h1=>by rw[Az]at h1;exact h1) A0 h0 kp
    |block id x=>
     rw[den]
     exact ih (.code x:: .blk id::k) ρ A n ν h (by simp only[Wi,Qi]at hx;simp only[M5,Wi,hx,hok,Bool.and_self]) (by simp only[Hl,J1,Lw]at hN ⊢;omega) st (f.mono fun ν' h1=>by rw[Az]at h1;exact h1) A0 h0 kp
    |scope x=>
     rw[den]
     exact ih (.code x:: .sc x::k) ρ A n ν h (by simp only[Wi,Qi]at hx;simp only[M5,Wi,hx,hok,Bool.and_self]) (by simp only[Hl,J1,Lw]at hN ⊢;omega) st (f.mono fun ν' h1=>by rw[Az]at h1;exact h1) A0 h0 kp
    |loop x=>
     rw[den]
     have h1:=st.get f
     rw[Az]at h1
     exact h1 A0 h0 h st.sat kp
    | exit id=>
     have h1:=st.get f
     rw[Az]at h1
     rw[den]
     split at h1
     ·rename_i k' hk'
      split
      ·rename_i k2 hk2
       rw[hk']at hk2
       cases hk2
       refine ih k' ρ A n ν h (G6 hk' hok) (by have:=EH _ _ _ hk';simp only[Hl]at hN;omega) st (f.mono fun ν' h2=> ?_) A0 h0 kp
       rw[Az]at h2
       split at h2
       ·rename_i k3 hk3;rw[hk']at hk3;cases hk3;exact h2
       ·exact h2.elim
      ·rename_i hno;rw[hk']at hno;cases hno
     ·exact h1.elim
    | cond x t e=>
     have h1:=st.get f
     rw[Az]at h1
     rw[den]
     obtain⟨v,hv,h1⟩:=AB h1
     refine(AQ hv _).2 ?_
     have f1:Ca ν n A fun ν'=>Pc v (Az c (.code t::k) ν' n ρ A) (Az c (.code e::k) ν' n ρ A):=f.mono fun ν' h2=>by
      rw[Az]at h2;exact(AQ hv _).1 h2
     unfold Pc at h1 f1⊢
     split at h1
     ·rename_i q _
      refine⟨fun hq=> ?_,fun hq=> ?_⟩
      ·exact ih (.code t::k) ρ A n ν h (by simp only[Wi,Qi,Bool.and_eq_true]at hx;simp only[M5,Wi,hx,hok,Bool.and_self]) (by simp only[Hl,J1,Lw]at hN ⊢;omega) st (f1.mono fun ν' h2=>h2.1 hq) A0 h0 kp
      ·exact ih (.code e::k) ρ A n ν h (by simp only[Wi,Qi,Bool.and_eq_true]at hx;simp only[M5,Wi,hx,hok,Bool.and_self]) (by simp only[Hl,J1,Lw]at hN ⊢;omega) st (f1.mono fun ν' h2=>h2.2 hq) A0 h0 kp
     ·exact h1.elim
    | region id ops draw=>
     cases draw with
     | true=>
      rw[den]
      have go:(∀(w:World) (b:Frame) (a:Act),w.heap=h→c.P.funcs[c.f]? =some c.fn→b.fn=c.f→b.kind=DefD.kd→BO c.n (canon c.live ρ) a→
        (Code.region id ops true).wp c.P (fun e a' w'=>match e with| .normal=>Ch c.P b (k.map It.item) a' w' (fun e w'=>(c.cx A0 h0).R e w'.heap∧Ai w w')| .panic ch=>a'.defers=DefD.ds∧((c.cx A0 h0).R (.panicked ch) w'.heap∧Ai w w')|_=>False) a w)→ @GZ dd (c.cx A0 h0) (.code (.region id ops true)::k) (canon c.live ρ) h ():=by
       intro hw hf b a w hb hn hk hwh
       exact .of_wp (hw w b a hwh hf hb hn hk) ⟨c.fn,by rw[hb];exact hf⟩ (fun e a' w' hq=>hq)
      simp only[Wi,Qi]at hx
      cases hp:GM c.plans id with
      |none=>
       have h1:=st.get f
       rw[Az,hp]at h1
       exact h1 A0 h0 h st.sat kp
      | some p=>
       cases p with
       | q sp=>
        rw[hp]at hx
        simp only[Bool.and_eq_true]at hx
        have f1:Ca ν n A fun ν'=>BJ c.P c.n sp ops.toList A 400 none ops.toList (canon c.live ρ) (fun ρ'=>Az c k ν' n ρ' A):=f.mono fun ν' h1=>by
         rw[Az,hp]at h1;exact h1
        refine go fun w b a hw hf hb hn hk=> ?_
        let C:World→Prop:=fun w'=>CQ A w'.heap∧BN A0 h0 A w'.heap∧Ai w w'∧St ν n A w'.heap
        have hC:LV A C:=fun w1 ⟨q1,q2,q3,q4⟩=>⟨q1,fun w2 g r=>⟨q1.grew g,q2.trans (BN.grew g),q3.trans r,q4.grew g⟩⟩
        subst hw
        refine wp_region_quiet (C:=C) hx.1 hx.2 ⟨st.sat,kp,⟨rfl,rfl,rfl⟩,st⟩ ?_
        have:=Kd (P:=c.P) (n:=c.n) (all:=ops.toList) (A:=A) (C:=C) (Q:=fun a'=> ∀w',C w'→Ch c.P b (k.map It.item) a' w' (fun e w'=>(c.cx A0 h0).R e w'.heap∧Ai w w')) hC 400 none ops.toList (canon c.live ρ) (fun ρ'=>Ca ν n A fun ν'=>Az c k ν' n ρ' A) a [] (Vz st (fun _ h=>h) f1) hk trivial
         (fun ρ' a' k1 k2 _=>wpQuiet_nil (fun w' hw'=>Cq (c.cx A0 h0) _ _ _ _ (Nat.le_refl _) (ih k ρ' A n ν w'.heap hok (by simp only[Hl]at hN;omega) hw'.2.2.2 k1 A0 h0 hw'.2.1) w hf b a' w' hb hn k2 rfl hw'.2.2.1))
        rw[List.append_nil]at this
        simpa using this
       | p pl=>
        rw[hp]at hx
        simp only[Bool.and_eq_true,beq_iff_eq]at hx
        obtain⟨hm,hs,hl,hrs,hpl⟩:=hx
        have f1:Ca ν n A fun ν'=>Cf c.P c.imp c.n ops.toList pl A ν' n (canon c.live ρ) A (fun ν n ρ' A=>Az c k ν n ρ' A):=f.mono fun ν' h1=>by
         rw[Az,hp]at h1;exact h1
        refine go fun w b a hw hf hb hn hk=> ?_
        subst hw
        refine wp_region_any hm (E6 (Inv:=Dt A0 h0 w) (le:=Gf) (rs:=H0 pl) (QA:=fun a' s=> ∃ρ',BO c.n ρ' a'∧Ca s.ν s.n s.A fun ν'=>Az c k ν' s.n ρ' s.A) ?_ _ _ _ ⟨A,ν,n,A⟩ _ ⟨st,kp,⟨rfl,rfl,rfl⟩,SubA.refl A⟩ ?_)
        ·rintro a' s w' ⟨ρ',hk',f⟩ ⟨h1,h2,h3,_⟩
         exact Cq (c.cx A0 h0) _ _ _ _ (Nat.le_refl _) (ih k ρ' s.A s.n s.ν w'.heap hok (by simp only[Hl]at hN;omega) h1 f A0 h0 h2) w hf b a' w' hb hn hk' rfl h3
        ·have:=Gt (P:=c.P) (imp:=c.imp) (nt:=c.n) (all:=ops.toList) (A0:=A0) (h0:=h0) (w0:=w) (rs:=H0 pl) (K:=fun ν n ρ' A=>Az c k ν n ρ' A)
          (Q:=fun e a' w'=>match e with| .normal=>Ch c.P b (k.map It.item) a' w' (fun e w'=>(c.cx A0 h0).R e w'.heap∧Ai w w')| .panic ch=>a'.defers=DefD.ds∧((c.cx A0 h0).R (.panicked ch) w'.heap∧Ai w w')|_=>False)
          (fun ch a' w' h1 h2 h3=>⟨h1,Jp h2,h3⟩) (by simpa using hs) (by simpa using hrs) (fun c' a' w' dst v hq=>⟨by have h1:=hq.1;cases dst<;>exact h1,hq.2⟩) (QA:=fun a' s=> ∃ρ',BO c.n ρ' a'∧Ca s.ν s.n s.A fun ν'=>Az c k ν' s.n ρ' s.A) (fun ρ' a' A' ν' n' As' hk' f=>⟨ρ',hk',f⟩)
          pl (Array.replicate ops.size false) (canon c.live ρ) a A A ν n (by simpa using hpl) hk st.inj ⟨w.heap,st⟩ f1
         rw[hl]at this
         simpa using this
     |false=>
      rw[den]
      refine Ln (K:=fun ν n ρ' A=>Az c k ν n ρ' A) _ _ _ _ _ _ _ _ _ (fun ch h' p=>Jp (p.from kp)) (fun ρ' h' p=> ?_) st (f.mono fun ν' h1=>by rw[Az]at h1;exact h1)
      obtain⟨ν1,n1,A1,st1,kp1,f1⟩:=p
      exact ih k ρ' A1 n1 ν1 h' hok (by simp only[Hl]at hN;omega) st1 f1 A0 h0 (kp.trans kp1)
    |rangeFunc _ _ _ _=>have h1:=st.get f;unfold Az at h1;exact h1.elim
    |goto _=>have h1:=st.get f;unfold Az at h1;exact h1.elim
    |refuse _=>have h1:=st.get f;unfold Az at h1;exact h1.elim
theorem FK[dd:DefD]{c:CxA}{k:List It}{ρ:Ak}{A:AH}{h:AL}(hok:M5 c.P c.imp c.plans k=true)(hs:CQ A h)(hd: ∀ν,Bu ν A→Az c k ν 0 ρ A){A0:AH}{h0:AL}(kp:BN A0 h0 A h):den (c.cx A0 h0) k ρ h:=
 OQ c _ k ρ A 0 _ h hok (Nat.le_refl _) (St.start hs) (Ca.fresh hd) A0 h0 kp
theorem AR.intro[dd:DefD]{c:CxA}{body:Code}{k:List It}{ρ:Ak}{A:AH}(hok:M5 c.P c.imp c.plans (.code body:: .lp body::k)=true)(hd: ∀ν,Bu ν A→Az c (.code body:: .lp body::k) ν 0 ρ A): @AR dd c body k ρ A ():=fun A0 h0 h hs kp=>
 Au.intro (FK hok hs hd kp)
attribute [instance] dd0
theorem HV(c:CxA){code:Code}{args:List Value}{A:AH}(hf:c.P.funcs[c.f]? =some c.fn)(hb:c.fn.body=some code)(hcl:BR c.P c.f=true)(hn:c.fn.ntmps=c.n)(ha:args.length≤c.n)(hok:Qi c.P c.imp c.plans code=true)
  (hd: ∀ν,Bu ν A→Az c [.code code] ν 0 (HO 0 args) A):JM c.imp.X c.P c.f args.toArray A c.R:=by
 have hh: ∀h,CQ A h→Di c.P c.f args.toArray h (TD c.imp.X A h c.R):=fun h hs=>by
  unfold Di
  rw[if_pos hcl]
  exact AY (c.cx A h) hf hb hn ha (FK (by simp only[M5,Wi,hok,Bool.and_self]) hs hd (BN.refl A h))
 unfold JM
 unfold TD at hh
 cases hx:c.imp.X with
 |none=>rw[hx]at hh;exact hh
 |some X=>rw[hx]at hh;exact hh
theorem AC(c:CxA)(hx:c.imp.X=none){code:Code}{args:List Value}{A:AH}(hf:c.P.funcs[c.f]? =some c.fn)(hb:c.fn.body=some code)(hcl:BR c.P c.f=true)(hn:c.fn.ntmps=c.n)(ha:args.length≤c.n)(hok:Qi c.P c.imp c.plans code=true)
  (hd: ∀ν,Bu ν A→Az c [.code code] ν 0 (HO 0 args) A):AK c.P c.f args.toArray A c.R:=by
 have:=HV c hf hb hcl hn ha hok hd
 unfold JM at this
 rw[hx]at this
 exact this
theorem Ao(c:CxA){X:List PanicEntry→AH→Prop}(hx:c.imp.X=some X){code:Code}{args:List Value}{A:AH}(hf:c.P.funcs[c.f]? =some c.fn)(hb:c.fn.body=some code)(hcl:BR c.P c.f=true)(hn:c.fn.ntmps=c.n)(ha:args.length≤c.n)(hok:Qi c.P c.imp c.plans code=true)
  (hd: ∀ν,Bu ν A→Az c [.code code] ν 0 (HO 0 args) A):AM c.P c.f args.toArray A X c.R:=by
 have:=HV c hf hb hcl hn ha hok hd
 unfold JM at this
 rw[hx]at this
 exact this
theorem AM.of{P:Program}{g:FuncId}{args:Array Value}{A:AH}{X:List PanicEntry→AH→Prop}{K:Value→AH→Prop}(hc:AK P g args A K):AM P g args A X K:=fun h hs=>(hc h hs).mono fun e h' h1=>.inl h1
theorem AM.mono{P:Program}{g:FuncId}{args:Array Value}{A:AH}{X X':List PanicEntry→AH→Prop}{K K':Value→AH→Prop}(hc:AM P g args A X K)(hx: ∀ch A',X ch A'→X' ch A')(hk: ∀v A',K v A'→K' v A'):AM P g args A X' K':=fun h hs=>
 (hc h hs).mono fun e h' h0=>by
  rcases h0 with⟨v,A',h1,h2,h3,h4⟩|⟨ch,A',h1,h2,h3,h4⟩
  ·exact .inl ⟨v,A',h1,h2,h3,hk _ _ h4⟩
  ·exact .inr ⟨ch,A',h1,h2,h3,hx _ _ h4⟩
theorem AK.mono{P:Program}{g:FuncId}{args:Array Value}{A:AH}{K K':Value→AH→Prop}(hc:AK P g args A K)(hk: ∀v A',K v A'→K' v A'):AK P g args A K':=fun h hs=>
 (hc h hs).mono fun e h' ⟨v,A',h1,h2,h3,h4⟩=>⟨v,A',h1,h2,h3,hk _ _ h4⟩
theorem BD{P:Program}{g:FuncId}{args:Array Value}{A:AH}{v:Value}(hi:P.inits.idxOf? g=none)(hc:AK P g args [] fun u _=>u=v):JH P g args A v:=
 ⟨fun _=>hi,fun h hs=>(hc h (CQ.nil h)).mono fun e h' ⟨u,A',h1,_,h3,h4⟩=>⟨by rw[h1,h4],h3.to_grew⟩⟩
theorem Aj{P:Program}{g:FuncId}{args:Array Value}{A A0:AH}{v:Value}(hi:P.inits.idxOf? g=none)(hc:AK P g args A0 fun u A'=>u=v∧SubA A0 A')(hs:SubA A0 A):JH P g args A v:=
 ⟨fun _=>hi,fun h hA=>(hc h (hA.sub hs)).mono fun e h' ⟨u,A',h1,h2,h3,h4,h5⟩=>⟨by rw[h1,h4],h3.1,fun b hb=>by
  cases hl:AA A0 b with
  |none=>exact(h3.2 b hb hl).1
  |some o=>rw[h2 b o (h5 b o hl),hA.sub hs b o hl]⟩⟩
theorem Av.quiet[dd:DefD](sp:Bool){c:CxA}{id:Nat}{l:List Oper}{k:List It}{ρ:Ak}{A:AH}(hm:c.P.follows .mixedOrders=true)(hB:Region.lexB .any l.toArray=true)(hok:M5 c.P c.imp c.plans k=true)
  (hd:BJ c.P c.n sp l A 400 none l ρ fun ρ'=> ∀ν,Bu ν A→Az c k ν 0 ρ' A): @Av dd c (.code (.region id l.toArray true)::k) ρ A ():=by
 intro A0 h0 h hs kp hf b a w hb hn hk hw
 refine .of_wp (Q:=fun e a' w'=>match e with| .normal=>Ch c.P b (k.map It.item) a' w' (fun e w'=>(c.cx A0 h0).R e w'.heap∧Ai w w')| .panic ch=>a'.defers=DefD.ds∧((c.cx A0 h0).R (.panicked ch) w'.heap∧Ai w w')|_=>False) ?_ ⟨c.fn,by rw[hb];exact hf⟩ (fun e a' w' hq=>hq)
 let C:World→Prop:=fun w'=>CQ A w'.heap∧BN A0 h0 A w'.heap∧Ai w w'
 have hC:LV A C:=fun w1 ⟨q1,q2,q3⟩=>⟨q1,fun w2 g r=>⟨q1.grew g,q2.trans (BN.grew g),q3.trans r⟩⟩
 subst hw
 refine wp_region_quiet (C:=C) hm hB ⟨hs,kp,rfl,rfl,rfl⟩ ?_
 have:=Kd (C:=C) (Q:=fun a'=> ∀w',C w'→Ch c.P b (k.map It.item) a' w' (fun e w'=>(c.cx A0 h0).R e w'.heap∧Ai w w')) hC 400 none l ρ _ a [] hd hk trivial
  (fun ρ' a' k1 k2 _=>wpQuiet_nil (fun w' hw'=>Cq (c.cx A0 h0) _ _ _ _ (Nat.le_refl _) (FK hok hw'.1 k1 hw'.2.1) w hf b a' w' hb hn k2 rfl hw'.2.2))
 rw[List.append_nil]at this
 exact this
end Go.Vm
namespace Go.Vm
def qu(X:List PanicEntry→AH→Prop)(v:Value)(A:AH)(_t:Tg X:=()):Prop:=match v with| .iface t u=>X [{v:=.iface t u,recovered:=false}] A|_=>False
theorem jP(X:List PanicEntry→AH→Prop)(t:TypeId)(u:Value)(A:AH):qu X (.iface t u) A=X [{v:=.iface t u,recovered:=false}] A:=rfl
def qY(v u:Value)(K:IntKind→Int→Int→Prop):Prop:=match v,u with| .int k a,.int _ b=>K k a b|_,_=>False
def aX(u:Option TypeDesc)(K:Value→Prop):Prop:=match u with|some (.map _ _)=>K (.int .i64 0)|_=>False
@[congr] theorem lenN_congr {u u':Option TypeDesc} {K:Value→Prop} (h1:u=u'):aX u K=aX u' K:=by rw[h1]
theorem BB{c K:Prop}(h:c):Ay c K=K:=by simp[Ay,h]
def DP(o:Oper):Oper:=⟨o.dst,o.op,o.type,"",#[],o.guard⟩
def Aq(l:List Oper):List Oper:=l.map DP
theorem H4:Aq []=[]:=rfl
theorem RQ(dst:Option Nat)(op:Op)(ty:TypeId)(pos:String)(aft:Array Edge)(gd:Option (Nat×Bool))(l:List Oper):Aq (⟨dst,op,ty,pos,aft,gd⟩::l)=⟨dst,op,ty,"",#[],gd⟩::Aq l:=rfl
theorem Tq(l k:List Oper):Aq (List.append l k)=Aq l++Aq k:=by simp[Aq]
theorem RP(l k:List Oper):Aq (l++k)=Aq l++Aq k:=by simp[Aq]
theorem EU(l:List Oper)(j:Nat):Bq (Aq l) j=Bq l j:=by
 unfold Bq Aq
 rw[List.getElem?_map]
 cases l[j]? <;>rfl
theorem Gz(cur:Option (Nat×Bool)): ∀l:List Oper,A7 cur (Aq l)=Aq (A7 cur l)
 | []=>rfl
 |o::l=>by
  show A7 cur (DP o::Aq l)=_
  unfold A7
  show(if o.guard=cur then _ else _)=_
  split
  ·rfl
  ·rw[Gz cur l];rfl
theorem Gn(cur:Option (Nat×Bool)): ∀l:List Oper,BQ cur (Aq l)=Aq (BQ cur l)
 | []=>rfl
 |o::l=>by
  show BQ cur (DP o::Aq l)=_
  unfold BQ
  show(if o.guard=cur then _ else _)=_
  split
  ·rfl
  ·rw[Gn cur l]
theorem Kl: ∀l:List Oper,Dy (Aq l)=Dy l
 | []=>rfl
 |o::l=>by show(Bk o.op&&Dy (Aq l))=_;rw[Kl l];rfl
theorem Km(sp:Bool): ∀l:List Oper,Fc sp (Aq l)=Fc sp l
 | []=>rfl
 |o::l=>by show(CT sp o.op&&Fc sp (Aq l))=_;rw[Km sp l];rfl
theorem D4: ∀(l:List Oper) (ρ:Ak),Ck (Aq l) ρ=Ck l ρ
 | [],_=>rfl
 |o::l,ρ=>by
  show Ck (DP o::Aq l) ρ=_
  unfold Ck
  show(match o.dst with|some d=>Ck (Aq l) ((d,none)::ρ)|none=>Ck (Aq l) ρ)=(match o.dst with|some d=>Ck l ((d,none)::ρ)|none=>Ck l ρ)
  cases o.dst<;>exact D4 l _
theorem G0(all:List Oper)(s j:Nat)(want:Bool): ∀(l:List Oper) (sk:List Nat),Br (Aq all) s j want sk (Aq l)=Br all s j want sk l
 | [],_=>by simp[Aq,Br]
 | o::l,sk=>by
  obtain⟨dst,op,ty,pos,aft,gd⟩:=o
  show Br (Aq all) s j want sk (⟨dst,op,ty,"",#[],gd⟩::Aq l)=_
  cases dst with
  |none=>simp[Br]
  | some d=>cases gd with
   |none=>simp[Br]
   |some g=>
    obtain⟨j',w'⟩:=g
    simp only[Br,EU,G0 all s j want l]
theorem My(P:Program)(imp:Imp)(nt:Nat)(all:List Oper): ∀(m:Nat) (cur:Option (Nat×Bool)) (l:List Oper) (ν:Nu) (n:Nat) (ρ:Ak) (A:AH) (K:Nu→Nat→Ak→AH→Prop),
  At P imp nt (Aq all) m cur (Aq l) ν n ρ A K=At P imp nt all m cur l ν n ρ A K:=by
 intro m
 induction m with
 |zero=>intro cur l ν n ρ A K;cases l<;>rfl
 | succ m ih=>
  intro cur l ν n ρ A K
  cases l with
  |nil=>rfl
  | cons o l=>
   have hcons:Aq (o::l)=DP o::Aq l:=rfl
   have e1:A7 cur (DP o::Aq l)=Aq (A7 cur (o::l)):=Gz cur (o::l)
   have e2:BQ cur (DP o::Aq l)=Aq (BQ cur (o::l)):=Gn cur (o::l)
   rw[hcons]
   unfold At
   have hg:(DP o).guard=o.guard:=rfl
   have hst: ∀K,BC P imp nt (DP o) ν n ρ A K=BC P imp nt o ν n ρ A K:=fun K=>by cases o;rfl
   simp only[hg,hst,ih,EU]
   congr 1
   cases o.guard with
   |none=>rfl
   | some jw=>
    obtain⟨j,want⟩:=jw
    simp only
    congr 1
    funext s
    congr 1
    funext v
    cases v<;>try rfl
    simp only
    rw[e1,e2,Kl,G0]
    congr 1
    generalize BQ cur (o::l)=aft
    generalize A7 cur (o::l)=g
    have ih0: ∀ν n ρ A K,At P imp nt (Aq all) m cur [] ν n ρ A K=At P imp nt all m cur [] ν n ρ A K:=fun ν n ρ A K=>ih cur [] ν n ρ A K
    cases Dy g with
    |false=>simp only[ih,D4]
    | true=>cases aft with
     |nil=>simp only[H4,ih,ih0,D4]
     | cons p after=>
      show(match Bv want s p.op with|some y=>_|none=>False)=(match Bv want s p.op with|some y=>_|none=>False)
      cases Bv want s p.op with
      |none=>rfl
      | some y=>
       simp only[ih]
       congr 1
       funext ν n ρ' A
       exact congrArg (fun K=>AZ (Aa ρ' y) K) (by
        funext c
        rw[D4]
        show CO nt p.dst want _ c (Ck g ρ) _=_
        congr 1
        funext ρ''
        exact ih cur after ν n ρ'' A K)
theorem P7(P:Program)(nt:Nat)(sp:Bool)(all:List Oper)(A:AH): ∀(m:Nat) (cur:Option (Nat×Bool)) (l:List Oper) (ρ:Ak) (K:Ak→Prop),
  BJ P nt sp (Aq all) A m cur (Aq l) ρ K=BJ P nt sp all A m cur l ρ K:=by
 intro m
 induction m with
 |zero=>intro cur l ρ K;cases l<;>rfl
 | succ m ih=>
  intro cur l ρ K
  cases l with
  |nil=>rfl
  | cons o l=>
   have hcons:Aq (o::l)=DP o::Aq l:=rfl
   have e1:A7 cur (DP o::Aq l)=Aq (A7 cur (o::l)):=Gz cur (o::l)
   have e2:BQ cur (DP o::Aq l)=Aq (BQ cur (o::l)):=Gn cur (o::l)
   rw[hcons]
   unfold BJ
   have hg:(DP o).guard=o.guard:=rfl
   have hst: ∀K,BF P nt (DP o) ρ A K=BF P nt o ρ A K:=fun K=>by cases o;rfl
   simp only[hg,hst,ih,EU]
   congr 1
   cases o.guard with
   |none=>rfl
   | some jw=>
    obtain⟨j,want⟩:=jw
    simp only
    congr 1
    funext s
    congr 1
    funext v
    cases v<;>try rfl
    simp only
    rw[e1,e2,Km,G0]
    congr 1
    generalize BQ cur (o::l)=aft
    generalize A7 cur (o::l)=g
    have ih0: ∀ρ K,BJ P nt sp (Aq all) A m cur [] ρ K=BJ P nt sp all A m cur [] ρ K:=fun ρ K=>ih cur [] ρ K
    cases Fc sp g with
    |false=>simp only[ih,D4]
    | true=>cases aft with
     |nil=>simp only[H4,ih,ih0,D4]
     | cons p after=>
      show(match Bv want s p.op with|some y=>_|none=>False)=(match Bv want s p.op with|some y=>_|none=>False)
      cases Bv want s p.op with
      |none=>rfl
      | some y=>
       simp only[ih]
       congr 1
       funext ρ'
       exact congrArg (fun K=>AZ (Aa ρ' y) K) (by
        funext c
        rw[D4]
        show CO nt p.dst want _ c (Ck g ρ) _=_
        congr 1
        funext ρ''
        exact ih cur after ρ'' K)
theorem Ke(P:Program)(imp:Imp)(nt:Nat)(all:List Oper): ∀(pl:List (Nat×Nat)) (As:AH) (ν:Nu) (n:Nat) (ρ:Ak) (A:AH) (K:Nu→Nat→Ak→AH→Prop),
  Cf P imp nt (Aq all) pl As ν n ρ A K=Cf P imp nt all pl As ν n ρ A K
 | [],_,_,_,_,_,_=>rfl
 | (i,m)::l,As,ν,n,ρ,A,K=>by
  have e:(Aq all)[i]? =all[i]?.map DP:=by unfold Aq;rw[List.getElem?_map]
  unfold Cf
  simp only[Ke P imp nt all l,e]
  cases all[i]? with
  |none=>rfl
  |some o=>
   obtain⟨dst,op,ty,pos,aft,gd⟩:=o
   simp only[Option.map_some,DP,D6]
   cases gd with
   |none=>simp only[Hv];rfl
   |some g=>obtain⟨j,want⟩:=g;simp only[Hv,EU];rfl
def Mh(l:List Oper)(K:List Oper→Prop)(_t:Tg K:=()):Prop:=K l
theorem d8(l:List Oper)(K:List Oper→Prop):Mh l K=K l:=rfl
section
variable (c:CxA) (k:List It) (ν:Nu) (n:Nat) (ρ:Ak) (A:AH)
theorem lh[dd:DefD]:Az c [] ν n ρ A=XX c ρ A:=by rw[Az]
theorem lg[dd:DefD](id:Nat):Az c (.blk id::k) ν n ρ A=Az c k ν n ρ A:=by rw[Az]
theorem pm[dd:DefD](b:Code):Az c (.sc b::k) ν n ρ A=Az c k ν n ρ A:=by rw[Az]
theorem ph[dd:DefD](b:Code):Az c (.lp b::k) ν n ρ A=DL (canon c.live ρ) fun ρ=> @AR dd c b k ρ A ():=by rw[Az];rfl
theorem fj[dd:DefD]:Az c (.code .skip::k) ν n ρ A=Az c k ν n ρ A:=by rw[Az]
theorem ZB[dd:DefD](l:Nat):Az c (.code (.label l)::k) ν n ρ A=Az c k ν n ρ A:=by rw[Az]
theorem lj[dd:DefD]:Az c (.code .ret::k) ν n ρ A=XX c ρ A:=by rw[Az]
theorem ll[dd:DefD](x y:Code):Az c (.code (.seq x y)::k) ν n ρ A=Az c (.code x:: .code y::k) ν n ρ A:=by rw[Az]
theorem fe[dd:DefD](x:Operand)(t e:Code):Az c (.code (.cond x t e)::k) ν n ρ A=AZ (Aa ρ x) fun v=>Pc v (Az c (.code t::k) ν n ρ A) (Az c (.code e::k) ν n ρ A):=by rw[Az]
theorem ZA[dd:DefD](id:Nat)(b:Code):Az c (.code (.block id b)::k) ν n ρ A=Az c (.code b:: .blk id::k) ν n ρ A:=by rw[Az]
theorem ZC[dd:DefD](b:Code):Az c (.code (.scope b)::k) ν n ρ A=Az c (.code b:: .sc b::k) ν n ρ A:=by rw[Az]
theorem fh[dd:DefD](b:Code):Az c (.code (.loop b)::k) ν n ρ A=DL (canon c.live ρ) fun ρ=> @AR dd c b k ρ A ():=by rw[Az];rfl
theorem Vx[dd:DefD](id:Nat)(ops:List Oper):Az c (.code (.region id ops.toArray false)::k) ν n ρ A=DL (canon c.live ρ) fun ρ=>Mh (Aq ops) fun ops=>At c.P c.imp c.n ops 400 none ops ν n ρ A fun ν n ρ' A=>Az c k ν n ρ' A:=by
 rw[Az];exact(My ..).symm
noncomputable def lq[dd:DefD](p:Option Pln)(id:Nat)(ops:List Oper):Prop:=match p with
 |some (.q sp)=>DL (canon c.live ρ) fun ρ=>Mh (Aq ops) fun ops=>BJ c.P c.n sp ops A 400 none ops ρ fun ρ'=>Az c k ν n ρ' A
 |some (.p pl)=>DL (canon c.live ρ) fun ρ=>Mh (Aq ops) fun ops=>Cf c.P c.imp c.n ops pl A ν n ρ A fun ν n ρ' A=>Az c k ν n ρ' A
 |none=>DL (canon c.live ρ) fun ρ=> @Av dd c (.code (.region id ops.toArray true)::k) ρ A ()
@[congr] theorem dRg_congr [dd:DefD] {c:CxA} {k:List It} {ν:Nu} {n:Nat} {ρ:Ak} {A:AH} {p p':Option Pln} {id:Nat} {ops:List Oper} (e:p=p'):lq c k ν n ρ A p id ops=lq c k ν n ρ A p' id ops:=by rw[e]
theorem R5[dd:DefD](id:Nat)(ops:List Oper):Az c (.code (.region id ops.toArray true)::k) ν n ρ A=lq c k ν n ρ A (GM c.plans id) id ops:=by
 rw[Az];unfold lq DL Mh;cases GM c.plans id with
 |none=>rfl
 |some p=>cases p with
  |q sp=>exact(P7 ..).symm
  |p pl=>exact(Ke ..).symm
theorem pw[dd:DefD](id:Nat)(sp:Bool)(ops:List Oper):lq c k ν n ρ A (some (.q sp)) id ops=DL (canon c.live ρ) fun ρ=>Mh (Aq ops) fun ops=>BJ c.P c.n sp ops A 400 none ops ρ fun ρ'=>Az c k ν n ρ' A:=rfl
theorem pq[dd:DefD](id:Nat)(pl:List (Nat×Nat))(ops:List Oper):lq c k ν n ρ A (some (.p pl)) id ops=DL (canon c.live ρ) fun ρ=>Mh (Aq ops) fun ops=>Cf c.P c.imp c.n ops pl A ν n ρ A fun ν n ρ' A=>Az c k ν n ρ' A:=rfl
theorem pn[dd:DefD](id:Nat)(ops:List Oper):lq c k ν n ρ A none id ops=DL (canon c.live ρ) fun ρ=> @Av dd c (.code (.region id ops.toArray true)::k) ρ A ():=rfl
theorem Ss(j:Nat):GM [] j=none:=rfl
theorem Qp(i j:Nat)(p:Pln)(l:List (Nat×Pln)):GM ((i,p)::l) j=if i=j then some p else GM l j:=rfl
theorem fg[dd:DefD](id:Nat):Az c (.code (.exit id)::k) ν n ρ A=UC c (Bz id k) ν n ρ A:=by
 rw[Az];split<;>rename_i h<;>rw[h]<;>rfl
theorem ZD[dd:DefD]:UC c (some k) ν n ρ A=Az c k ν n ρ A:=rfl
@[congr] theorem dXA_congr [dd:DefD] {c:CxA} {k k':Option (List It)} {ν:Nu} {n:Nat} {ρ:Ak} {A:AH} (e:k=k'):UC c k ν n ρ A=UC c k' ν n ρ A:=by rw[e]
theorem jg:XX c ρ A=AZ (F9 c.P ρ A c.fn.results.toList) fun vs=>c.R (one vs) A:=rfl
end
section
variable (P:Program) (imp:Imp) (nt:Nat) (all:List Oper) (m:Nat) (ν:Nu) (n:Nat) (ρ:Ak) (A:AH) (K:Nu→Nat→Ak→AH→Prop)
variable (dst:Option Nat) (ty:TypeId) (pos:String) (aft:Array Edge) (gd:Option (Nat×Bool)) (rest:List Oper)
theorem nA(cur:Option (Nat×Bool)):At P imp nt all (m+1) cur [] ν n ρ A K=K ν n ρ A:=rfl
theorem bB(op:Op):At P imp nt all (m+1) none (⟨dst,op,ty,pos,aft,none⟩::rest) ν n ρ A K=
  BC P imp nt ⟨dst,op,ty,pos,aft,none⟩ ν n ρ A fun ν n ρ' A=>At P imp nt all m none rest ν n ρ' A K:=by simp[At]
theorem qg(op:Op)(g:Nat×Bool):At P imp nt all (m+1) (some g) (⟨dst,op,ty,pos,aft,some g⟩::rest) ν n ρ A K=
  BC P imp nt ⟨dst,op,ty,pos,aft,some g⟩ ν n ρ A fun ν n ρ' A=>At P imp nt all m (some g) rest ν n ρ' A K:=by simp[At]
noncomputable def iV(cur:Option (Nat×Bool))(j:Nat)(want:Bool)(g after:List Oper)(s:Nat)(b:Bool)(pure:Bool):Prop:=
 match pure,after with
 |true,p::after'=>match Bv want s p.op with
  |some y=>At P imp nt all m (some (j,want)) g ν n ρ A fun ν n ρ' A=>AZ (Aa ρ' y) fun c=>CO nt p.dst want b c (Ck g ρ) fun ρ''=>At P imp nt all m cur after' ν n ρ'' A K
  |none=>False
 |_,after=>KJ (b==want) (At P imp nt all m (some (j,want)) g ν n ((s,some (.bool want))::ρ) A fun ν n ρ' A=>At P imp nt all m cur after ν n ρ' A K) (At P imp nt all m cur after ν n (Ck g ((s,some (.bool (!want)))::ρ)) A K)
@[congr] theorem gpA_congr {P:Program} {imp:Imp} {nt:Nat} {all:List Oper} {m:Nat} {ν:Nu} {n:Nat} {ρ:Ak} {A:AH} {K:Nu→Nat→Ak→AH→Prop} {cur:Option (Nat×Bool)} {j:Nat} {want:Bool} {g g' after after':List Oper} {s:Nat} {b pu pu':Bool} (h1:g=g') (h2:after=after') (h3:pu=pu'):
  iV P imp nt all m ν n ρ A K cur j want g after s b pu=iV P imp nt all m ν n ρ A K cur j want g' after' s b pu':=by rw[h1,h2,h3]
noncomputable def sx(cur:Option (Nat×Bool))(j:Nat)(want:Bool)(g after:List Oper)(s:Nat)(v:Value):Prop:=
 match v with| .bool b=>Ay (Br all s j want [] g=true) (iV P imp nt all m ν n ρ A K cur j want g after s b (Dy g))|_=>False
theorem aC(cur:Option (Nat×Bool))(j:Nat)(want:Bool)(g after:List Oper)(s:Nat)(b:Bool):
  sx P imp nt all m ν n ρ A K cur j want g after s (.bool b)=Ay (Br all s j want [] g=true) (iV P imp nt all m ν n ρ A K cur j want g after s b (Dy g)):=rfl
theorem bA(op:Op)(cur:Option (Nat×Bool))(j:Nat)(want:Bool)(hne: ¬some (j,want)=cur):At P imp nt all (m+1) cur (⟨dst,op,ty,pos,aft,some (j,want)⟩::rest) ν n ρ A K=
  AZ (Bq all j) fun s=>AZ (get ρ s) fun v=>sx P imp nt all m ν n ρ A K cur j want
   (⟨dst,op,ty,pos,aft,some (j,want)⟩::A7 cur rest) (BQ cur rest) s v:=by
 have h1:A7 cur (⟨dst,op,ty,pos,aft,some (j,want)⟩::rest)=⟨dst,op,ty,pos,aft,some (j,want)⟩::A7 cur rest:=by simp[A7,hne]
 have h2:BQ cur (⟨dst,op,ty,pos,aft,some (j,want)⟩::rest)=BQ cur rest:=by simp[BQ,hne]
 rw[At,if_neg hne,h1,h2]
 congr 1
theorem jJ(op:Op)(j:Nat)(want:Bool):At P imp nt all (m+1) none (⟨dst,op,ty,pos,aft,some (j,want)⟩::rest) ν n ρ A K=
  AZ (Bq all j) fun s=>AZ (get ρ s) fun v=>sx P imp nt all m ν n ρ A K none j want
   (⟨dst,op,ty,pos,aft,some (j,want)⟩::A7 none rest) (BQ none rest) s v:=bA P imp nt all m ν n ρ A K dst ty pos aft rest op none j want (by simp)
theorem mQ(cur:Option (Nat×Bool))(j:Nat)(want:Bool)(g after:List Oper)(s:Nat)(b:Bool):iV P imp nt all m ν n ρ A K cur j want g after s b false=
  KJ (b==want) (DL ((s,some (.bool want))::ρ) fun ρ=>At P imp nt all m (some (j,want)) g ν n ρ A fun ν n ρ' A=>DL ρ' fun ρ'=>At P imp nt all m cur after ν n ρ' A K) (DL (Ck g ((s,some (.bool (!want)))::ρ)) fun ρ=>At P imp nt all m cur after ν n ρ A K):=rfl
theorem mR(cur:Option (Nat×Bool))(j:Nat)(g after:List Oper)(s:Nat)(b:Bool)(y:Operand):iV P imp nt all m ν n ρ A K cur j false g (⟨dst,.pick (.tmp s) (.const (.bool true)) y,ty,pos,aft,gd⟩::after) s b true=
  DL (Ck g ρ) fun ρ2=>At P imp nt all m (some (j,false)) g ν n ρ A fun ν n ρ' A=>AZ (Aa ρ' y) fun c=>CO nt dst false b c ρ2 fun ρ''=>At P imp nt all m cur after ν n ρ'' A K:=by simp[iV,Bv,DL]
theorem iW(cur:Option (Nat×Bool))(j:Nat)(g after:List Oper)(s:Nat)(b:Bool)(y:Operand):iV P imp nt all m ν n ρ A K cur j true g (⟨dst,.pick (.tmp s) y (.const (.bool false)),ty,pos,aft,gd⟩::after) s b true=
  DL (Ck g ρ) fun ρ2=>At P imp nt all m (some (j,true)) g ν n ρ A fun ν n ρ' A=>AZ (Aa ρ' y) fun c=>CO nt dst true b c ρ2 fun ρ''=>At P imp nt all m cur after ν n ρ'' A K:=by simp[iV,Bv,DL]
theorem jp(x:Operand):BC P imp nt ⟨dst,.move x,ty,pos,aft,gd⟩ ν n ρ A K=Am P nt ⟨dst,.move x,ty,pos,aft,gd⟩ ρ #[] (fun ρ' _=>K ν n ρ' A) fun _ _=>False:=BB rfl
theorem Xb(x:Operand):BC P imp nt ⟨dst,.assign x,ty,pos,aft,gd⟩ ν n ρ A K=Am P nt ⟨dst,.assign x,ty,pos,aft,gd⟩ ρ #[] (fun ρ' _=>K ν n ρ' A) fun _ _=>False:=BB rfl
theorem jr(x a b:Operand):BC P imp nt ⟨dst,.pick x a b,ty,pos,aft,gd⟩ ν n ρ A K=Am P nt ⟨dst,.pick x a b,ty,pos,aft,gd⟩ ρ #[] (fun ρ' _=>K ν n ρ' A) fun _ _=>False:=BB rfl
theorem Q2(x:Operand):BC P imp nt ⟨dst,.nilCheck x,ty,pos,aft,gd⟩ ν n ρ A K=Am P nt ⟨dst,.nilCheck x,ty,pos,aft,gd⟩ ρ #[] (fun ρ' _=>K ν n ρ' A) fun _ _=>False:=BB rfl
theorem cD(op:BinOp)(t:TypeId)(x y:Operand)(t2:TypeId):BC P imp nt ⟨dst,.binOp op t x y t2,ty,pos,aft,gd⟩ ν n ρ A K=Am P nt ⟨dst,.binOp op t x y t2,ty,pos,aft,gd⟩ ρ #[] (fun ρ' _=>K ν n ρ' A) fun _ _=>False:=BB rfl
theorem ju(op:UnOp)(t:TypeId)(x:Operand):BC P imp nt ⟨dst,.unOp op t x,ty,pos,aft,gd⟩ ν n ρ A K=Am P nt ⟨dst,.unOp op t x,ty,pos,aft,gd⟩ ρ #[] (fun ρ' _=>K ν n ρ' A) fun _ _=>False:=BB rfl
theorem KR(t:TypeId)(x:Operand):BC P imp nt ⟨dst,.makeInterface t x,ty,pos,aft,gd⟩ ν n ρ A K=Am P nt ⟨dst,.makeInterface t x,ty,pos,aft,gd⟩ ρ #[] (fun ρ' _=>K ν n ρ' A) fun _ _=>False:=BB rfl
theorem O6(t:TypeId)(x:Operand)(i:Nat):BC P imp nt ⟨dst,.fieldAddr t x i,ty,pos,aft,gd⟩ ν n ρ A K=Am P nt ⟨dst,.fieldAddr t x i,ty,pos,aft,gd⟩ ρ #[] (fun ρ' _=>K ν n ρ' A) fun _ _=>False:=BB rfl
theorem cG(t:TypeId)(x:Operand)(i:Nat):BC P imp nt ⟨dst,.field t x i,ty,pos,aft,gd⟩ ν n ρ A K=Am P nt ⟨dst,.field t x i,ty,pos,aft,gd⟩ ρ #[] (fun ρ' _=>K ν n ρ' A) fun _ _=>False:=BB rfl
theorem O7(t:TypeId)(x i:Operand):BC P imp nt ⟨dst,.indexAddr t x i,ty,pos,aft,gd⟩ ν n ρ A K=Am P nt ⟨dst,.indexAddr t x i,ty,pos,aft,gd⟩ ρ #[] (fun ρ' _=>K ν n ρ' A) fun _ _=>False:=BB rfl
theorem cH(t:TypeId)(x i:Operand):BC P imp nt ⟨dst,.index t x i,ty,pos,aft,gd⟩ ν n ρ A K=Am P nt ⟨dst,.index t x i,ty,pos,aft,gd⟩ ρ #[] (fun ρ' _=>K ν n ρ' A) fun _ _=>False:=BB rfl
theorem TN(x:Operand)(i:Nat):BC P imp nt ⟨dst,.extract x i,ty,pos,aft,gd⟩ ν n ρ A K=Am P nt ⟨dst,.extract x i,ty,pos,aft,gd⟩ ρ #[] (fun ρ' _=>K ν n ρ' A) fun _ _=>False:=BB rfl
theorem cE(t:TypeId)(ps:List (Nat×Operand)):BC P imp nt ⟨dst,.build t ps.toArray,ty,pos,aft,gd⟩ ν n ρ A K=Am P nt ⟨dst,.build t ps.toArray,ty,pos,aft,gd⟩ ρ #[] (fun ρ' _=>K ν n ρ' A) fun _ _=>False:=BB rfl
theorem Q1(fn:Fn)(fs cs:List Operand):BC P imp nt ⟨dst,.makeFunc fn fs.toArray cs.toArray,ty,pos,aft,gd⟩ ν n ρ A K=Am P nt ⟨dst,.makeFunc fn fs.toArray cs.toArray,ty,pos,aft,gd⟩ ρ #[] (fun ρ' _=>K ν n ρ' A) fun _ _=>False:=BB rfl
theorem cL(t:TypeId)(x:Operand)(lo hi:Option Operand):BC P imp nt ⟨dst,.slice t x lo hi none,ty,pos,aft,gd⟩ ν n ρ A K=Am P nt ⟨dst,.slice t x lo hi none,ty,pos,aft,gd⟩ ρ #[] (fun ρ' _=>K ν n ρ' A) fun _ _=>False:=BB rfl
theorem Xf(t:TypeId)(x m:Operand)(lo hi:Option Operand):BC P imp nt ⟨dst,.slice t x lo hi (some m),ty,pos,aft,gd⟩ ν n ρ A K=AZ (Aa ρ x) fun v=>AZ (ET ρ lo) fun l=>AZ (ET ρ hi) fun r=>AZ (Aa ρ m) fun mv=>NE P t v l r mv fun u=>Ac nt dst u ρ fun ρ'=>K ν n ρ' A:=BB rfl
theorem j6{P:Program}{t:TypeId}(p:Option Addr)(n m:Nat)(lo hi:Option Value)(mx:Value)(K:Value→Prop):NE P t (.slice p n m) lo hi mx K=AZ (MW P t) fun e=>AZ (B6 lo 0) fun l=>AZ (B6 hi n) fun r=>AZ (B6 (some mx) m) fun c=>Ay (hi≠none∧0≤l∧l≤r∧r≤c∧c≤m) (K (.slice (if c=l then p else p.map (·.add (l.toNat*e.2.1))) (r.toNat - l.toNat) (c.toNat - l.toNat))):=rfl
theorem jm(f:Operand)(xs:List Operand)(ts:Array TypeId):BC P imp nt ⟨dst,.call ⟨.value f,xs.toArray,ts⟩,ty,pos,aft,gd⟩ ν n ρ A K=AZ (Aa ρ f) fun fv=>AZ (GD ρ xs) fun vs=>NS P imp fv vs A ν n fun ν n u A=>Ac nt dst u ρ fun ρ'=>K ν n ρ' A:=rfl
theorem jo(t:TypeId)(x:Operand):BC P imp nt ⟨dst,.load t x,ty,pos,aft,gd⟩ ν n ρ A K=AZ (Aa ρ x) fun p=>AZ (Co p) fun a=>AZ (Ew P A t a) fun u=>Ac nt dst u ρ fun ρ'=>K ν n ρ' A:=rfl
theorem cM(t:TypeId)(x y:Operand):BC P imp nt ⟨dst,.store t x y,ty,pos,aft,gd⟩ ν n ρ A K=AZ (Aa ρ x) fun p=>AZ (Co p) fun a=>AZ (Aa ρ y) fun v=>AZ (J4 P t) fun s=>Ay (v.cells.size=s.2) (AZ (pO A a v.cells.toList) fun A'=>Ac nt dst undef ρ fun ρ'=>K ν n ρ' A'):=rfl
theorem cJ(l:List Nat)(X:List PanicEntry→AH→Prop)(x:Operand):BC P ⟨l,some X⟩ nt ⟨dst,.panic x,ty,pos,aft,gd⟩ ν n ρ A K=AZ (Aa ρ x) fun v=>qu X v A:=by simp only[BC];congr;funext v;cases v<;>rfl
theorem cC(e:TypeId):BC P imp nt ⟨dst,.alloc e,ty,pos,aft,gd⟩ ν n ρ A K=AZ (JA P e) fun z=>Ac nt dst (.pointer (some ⟨ν n,0,none⟩)) ρ fun ρ'=>K ν (n+1) ρ' ((ν n,.cells z.cells e)::A):=rfl
theorem nb(e:TypeId)(x:Operand):BC P imp nt ⟨dst,.box e x,ty,pos,aft,gd⟩ ν n ρ A K=AZ (Aa ρ x) fun v=>Ac nt dst (.pointer (some ⟨ν n,0,none⟩)) ρ fun ρ'=>K ν (n+1) ρ' ((ν n,.cells v.cells e)::A):=rfl
theorem NB(t:TypeId)(l:Nat)(ps:List (Nat×Operand)):BC P imp nt ⟨dst,.buildSlice t l ps.toArray,ty,pos,aft,gd⟩ ν n ρ A K=AZ (AE ρ ps) fun vs=>AZ (BP P t l vs) fun r=>Ac nt dst (.slice (some ⟨ν n,0,none⟩) l l) ρ fun ρ'=>K ν (n+1) ρ' ((ν n,.cells r.2 r.1)::A):=rfl
theorem TO(t:TypeId):BC P imp nt ⟨dst,.makeMap t none,ty,pos,aft,gd⟩ ν n ρ A K=Ac nt dst (.map (some (ν n))) ρ fun ρ'=>K ν (n+1) ρ' ((ν n,.map #[] 0)::A):=rfl
theorem TM(s d:TypeId)(x:Operand):BC P imp nt ⟨dst,.convert s d x,ty,pos,aft,gd⟩ ν n ρ A K=AZ (Aa ρ x) fun v=>Hk P s d (P.underlying s) (P.underlying d) v A ν n fun ν n u A=>Ac nt dst u ρ fun ρ'=>K ν n ρ' A:=rfl
theorem O8(t:TypeId)(l cc:Operand):BC P imp nt ⟨dst,.makeSlice t l cc,ty,pos,aft,gd⟩ ν n ρ A K=AZ (Aa ρ l) fun lv=>AZ (Aa ρ cc) fun cv=>Dz P (Instr.makeSlice t lv cv) A ν n fun ν n u A=>Ac nt dst u ρ fun ρ'=>K ν n ρ' A:=rfl
theorem Xe(t:TypeId)(x i:Operand)(ok:Bool):BC P imp nt ⟨dst,.lookup t x i ok,ty,pos,aft,gd⟩ ν n ρ A K=AZ (Aa ρ x) fun m=>AZ (Aa ρ i) fun k=>JJ P (Instr.lookup t m k ok) A ν n fun ν n u A=>Ac nt dst u ρ fun ρ'=>K ν n ρ' A:=rfl
theorem O9(t:TypeId)(x i y:Operand):BC P imp nt ⟨dst,.mapUpdate t x i y,ty,pos,aft,gd⟩ ν n ρ A K=AZ (Aa ρ x) fun m=>AZ (Aa ρ i) fun k=>AZ (Aa ρ y) fun v=>Dz P (do Instr.mapUpdate t m k v;Pure.pure undef) A ν n fun ν n u A=>Ac nt dst u ρ fun ρ'=>K ν n ρ' A:=rfl
theorem Xd(t:TypeId)(x i y:Operand):BC P imp nt ⟨dst,.insert t x i y,ty,pos,aft,gd⟩ ν n ρ A K=AZ (Aa ρ x) fun m=>AZ (Aa ρ i) fun k=>AZ (Aa ρ y) fun v=>Dz P (do Instr.mapUpdate t m k v;Pure.pure undef) A ν n fun ν n u A=>Ac nt dst u ρ fun ρ'=>K ν n ρ' A:=rfl
theorem cK(t:TypeId)(x:Operand):BC P imp nt ⟨dst,.range t x,ty,pos,aft,gd⟩ ν n ρ A K=AZ (Aa ρ x) fun v=>KO P t v A ν n fun ν n u A=>Ac nt dst u ρ fun ρ'=>K ν n ρ' A:=rfl
theorem jq(x:Operand)(s:Bool):BC P imp nt ⟨dst,.next x s,ty,pos,aft,gd⟩ ν n ρ A K=AZ (Aa ρ x) fun v=>Nr P v s ty A ν n fun ν n u A=>Ac nt dst u ρ fun ρ'=>K ν n ρ' A:=rfl
theorem NC(x:Operand)(t a:TypeId)(ok:Bool):BC P imp nt ⟨dst,.typeAssert x t a ok,ty,pos,aft,gd⟩ ν n ρ A K=AZ (Aa ρ x) fun v=>JJ P (Instr.typeAssert v t a ok) A ν n fun ν n u A=>Ac nt dst u ρ fun ρ'=>K ν n ρ' A:=rfl
theorem ng(x:Operand)(t:TypeId):BC P imp nt ⟨dst,.call ⟨.builtin .len,#[x],#[t]⟩,ty,pos,aft,gd⟩ ν n ρ A K=AZ (Aa ρ x) fun v=>HT P t v A fun u=>Ac nt dst u ρ fun ρ'=>K ν n ρ' A:=by
 unfold BC
 simp only[GD]
 cases Aa ρ x<;>simp[AZ,Dd]
theorem ni(x y:Operand)(ts:Array TypeId):BC P imp nt ⟨dst,.call ⟨.builtin .min,#[x,y],ts⟩,ty,pos,aft,gd⟩ ν n ρ A K=AZ (Aa ρ x) fun v=>AZ (Aa ρ y) fun u=>qY v u fun k a b=>Ac nt dst (.int k (if b<a then b else a)) ρ fun ρ'=>K ν n ρ' A:=by
 unfold BC
 simp only[GD]
 cases Aa ρ x<;>cases Aa ρ y<;>simp[AZ,Dd]
 rename_i v u
 cases v<;>cases u<;>simp[qY]
theorem nh(x y:Operand)(ts:Array TypeId):BC P imp nt ⟨dst,.call ⟨.builtin .max,#[x,y],ts⟩,ty,pos,aft,gd⟩ ν n ρ A K=AZ (Aa ρ x) fun v=>AZ (Aa ρ y) fun u=>qY v u fun k a b=>Ac nt dst (.int k (if a<b then b else a)) ρ fun ρ'=>K ν n ρ' A:=by
 unfold BC
 simp only[GD]
 cases Aa ρ x<;>cases Aa ρ y<;>simp[AZ,Dd]
 rename_i v u
 cases v<;>cases u<;>simp[qY]
theorem Xa(xs:List Operand)(ts:Array TypeId):BC P imp nt ⟨dst,.call ⟨.builtin .append,xs.toArray,ts⟩,ty,pos,aft,gd⟩ ν n ρ A K=AZ (GD ρ xs) fun vs=>Dz P (Builtin.append_ ts ty vs.toArray) A ν n fun ν n u A=>Ac nt dst u ρ fun ρ'=>K ν n ρ' A:=rfl
theorem jn(xs:List Operand)(ts:Array TypeId):BC P imp nt ⟨dst,.call ⟨.builtin .copy,xs.toArray,ts⟩,ty,pos,aft,gd⟩ ν n ρ A K=AZ (GD ρ xs) fun vs=>Dz P (Builtin.copy_ ts ty vs.toArray) A ν n fun ν n u A=>Ac nt dst u ρ fun ρ'=>K ν n ρ' A:=rfl
theorem Xc(xs:List Operand)(ts:Array TypeId):BC P imp nt ⟨dst,.call ⟨.builtin .delete,xs.toArray,ts⟩,ty,pos,aft,gd⟩ ν n ρ A K=AZ (GD ρ xs) fun vs=>Dz P (Builtin.delete_ ts ty vs.toArray) A ν n fun ν n u A=>Ac nt dst u ρ fun ρ'=>K ν n ρ' A:=rfl
theorem cF(xs:List Operand)(ts:Array TypeId):BC P imp nt ⟨dst,.call ⟨.builtin .clear,xs.toArray,ts⟩,ty,pos,aft,gd⟩ ν n ρ A K=AZ (GD ρ xs) fun vs=>Dz P (Builtin.clear_ ts ty vs.toArray) A ν n fun ν n u A=>Ac nt dst u ρ fun ρ'=>K ν n ρ' A:=rfl
theorem nf(xs:List Operand)(ts:Array TypeId):BC P imp nt ⟨dst,.call ⟨.builtin .cap,xs.toArray,ts⟩,ty,pos,aft,gd⟩ ν n ρ A K=AZ (GD ρ xs) fun vs=>JJ P (Builtin.cap_ ts ty vs.toArray) A ν n fun ν n u A=>Ac nt dst u ρ fun ρ'=>K ν n ρ' A:=rfl
end
section
variable (P:Program) (imp:Imp) (ν:Nu) (n:Nat) (A:AH) (K:Nu→Nat→Value→AH→Prop) (t:TypeId)
theorem Rr(g:FuncId)(fs vs cs:List Value):NS P imp (.func (.func g) fs.toArray cs.toArray) vs A ν n K=Re P imp g (fs++vs++cs).toArray A ν n K:=by
 unfold NS;simp
noncomputable def Po(X:Xp)(g:FuncId)(args:Array Value)(b:Prop)(K:Nu→Nat→Value→AH→Prop)(_t:Tg (X,K):=()):Prop:=(b→JM X P g args A fun v A'=> ∀ν',Bu ν' A'→K ν' 0 v A')∧(¬b→AZ (Ag P g args A) fun v=>K ν n v A)
theorem eR(l:List Nat)(X:Xp)(g:FuncId)(args:Array Value):Re P ⟨l,X⟩ g args A ν n K=Po P ν n A X g args (g∈l) K:=by
 unfold Re Po
 by_cases h:g∈l<;>simp[h]
theorem Ro(X:Xp)(g:FuncId)(args:Array Value):Po P ν n A X g args False K=AZ (Ag P g args A) fun v=>K ν n v A:=by simp[Po]
def kU(P:Program)(g:FuncId)(args:Array Value)(A:AH)(K:Nu→Nat→Value→AH→Prop)(_t:Tg K:=()):Prop:=AK P g args A fun v A'=> ∀ν',Bu ν' A'→K ν' 0 v A'
theorem Vk(g:FuncId)(args:Array Value):Po P ν n A none g args True K=kU P g args A K:=by simp[Po,kU,JM]
def LU(P:Program)(g:FuncId)(args:Array Value)(A:AH)(X:List PanicEntry→AH→Prop)(K:Nu→Nat→Value→AH→Prop)(_t:Tg (X,K):=()):Prop:=AM P g args A X fun v A'=> ∀ν',Bu ν' A'→K ν' 0 v A'
theorem Rp(X:List PanicEntry→AH→Prop)(g:FuncId)(args:Array Value):Po P ν n A (some X) g args True K=LU P g args A X K:=by simp[Po,LU,JM]
theorem aW(x:ByteArray)(K:Value→Prop):HT P t (.string x) A K=WY (P.underlying t) x K:=rfl
theorem aV(p:Option Addr)(i j:Nat)(K:Value→Prop):HT P t (.slice p i j) A K=AZ (MW P t) fun _=>K (.int .i64 i):=rfl
theorem aU(r:Nat)(K:Value→Prop):HT P t (.map (some r)) A K=QY (P.underlying t) (AA A r) K:=rfl
theorem WX(K:Value→Prop):HT P t (.map none) A K=aX (P.underlying t) K:=by
 unfold HT G4 aX;rfl
@[congr] theorem cnvN_congr {P:Program} {s d:TypeId} {us us' ud ud':Option TypeDesc} {x:Value} {A:AH} {ν:Nu} {n:Nat} {K:Nu→Nat→Value→AH→Prop} (h1:us=us') (h2:ud=ud'):Hk P s d us ud x A ν n K=Hk P s d us' ud' x A ν n K:=by rw[h1,h2]
theorem Pw(s d:TypeId)(k k':IntKind)(a:Int)(ds:TypeDesc):Hk P s d (some ds) (some (.int k)) (.int k' a) A ν n K=K ν n (.int k (k.wrap a)) A:=by cases ds<;>rfl
theorem NV(s d:TypeId)(k k':IntKind)(a:Int):Hk P s d (some (.int k)) (some .string) (.int k' a) A ν n K=K ν n (.string (Utf8.encode a)) A:=rfl
theorem Px(s d:TypeId)(x:ByteArray):Hk P s d (some .string) (some .string) (.string x) A ν n K=K ν n (.string x) A:=rfl
theorem Li(s d e:TypeId)(x:Value):Hk P s d (some .string) (some (.slice e)) x A ν n K=Dz P (convert s d x) A ν n K:=rfl
theorem JN(s d e:TypeId)(x:Value):Hk P s d (some (.slice e)) (some .string) x A ν n K=JJ P (convert s d x) A ν n K:=rfl
theorem eg(s:Sem Value):JJ P s A ν n K=AZ (Ex P s A) fun v=>K ν n v A:=rfl
theorem S4(x:ByteArray):KO P t (.string x) A ν n K=Ay (P.underlying t=some .string) (K ν (n+1) (.pointer (some ⟨ν n,0,none⟩)) ((ν n,.stringIter x 0)::A)):=rfl
theorem We(r:Nat):Nr P (.pointer (some ⟨r,0,none⟩)) true t A ν n K=L6 r (AA A r) A ν n K:=rfl
@[congr] theorem nextO_congr {r:Nat} {o o':Option Obj} {A:AH} {ν:Nu} {n:Nat} {K:Nu→Nat→Value→AH→Prop} (h:o=o'):L6 r o A ν n K=L6 r o' A ν n K:=by rw[h]
theorem Wf(r pos:Nat)(s:ByteArray):L6 r (some (.stringIter s pos)) A ν n K=KJ (decide (pos<s.size)) (K ν n (.tuple #[.bool true,.int .i64 pos,.int .i32 (Utf8.decode s pos).1]) (Dw A r (.stringIter s (pos+(Utf8.decode s pos).2)))) (K ν n (.tuple #[.bool false]) A):=rfl
end
section
variable (P:Program) (A:AH) (b x o n:Nat) (u:Obj)
theorem ac:AA [] x=none:=rfl
theorem Wa:AA ((b,u)::A) x=if b=x then some u else AA A x:=rfl
theorem bZ:Dw [] x u=[]:=rfl
theorem XM(u':Obj):Dw ((b,u)::A) x u'=if b=x then(b,u')::A else(b,u)::Dw A x u':=rfl
def sa(s:Option (Bool×Nat))(ob:Option Obj)(o:Nat):Option Value:=match s with
 |some (true,n)=>Gp (DW ob o n)
 |some (false,_)=>Lh ob o
 |none=>none
theorem XR(t:TypeId):Ew P A t ⟨b,o,none⟩=sa (J4 P t) (AA A b) o:=by
 unfold Ew tH sa
 cases J4 P t with
 |none=>rfl
 |some s=>obtain⟨q,n⟩:=s;cases q<;>rfl
theorem jY(ob:Option Obj):sa (some (true,n)) ob o=Gp (DW ob o n):=rfl
theorem jZ(ob:Option Obj):sa (some (false,n)) ob o=Lh ob o:=rfl
theorem ot(vs:List Value):pO A ⟨b,o,none⟩ vs=kS A b (AA A b) o vs:=by unfold pO;simp
theorem YE(c:Array Value)(e:TypeId)(vs:List Value):kS A b (some (.cells c e (0,0))) o vs=if o+vs.length≤c.size∧DH vs=true then some (Dw A b (.cells (By c o vs) e))else none:=by simp[kS]
theorem XT(ρ:Ak):F9 P ρ A []=some []:=rfl
theorem S7(ρ:Ak)(r:ResultVar)(l:List ResultVar):F9 P ρ A (r::l)=Dd (MK P ρ A r) (F9 P ρ A l):=rfl
theorem XV(ρ:Ak)(t:Nat):MK P ρ A (.tmp t)=get ρ t:=rfl
def qk(P:Program)(A:AH)(ty:TypeId)(o:Option Addr):Option Value:=match o with|some a=>Ew P A ty a|none=>none
theorem S8(ρ:Ak)(s:Nat)(t:TypeId):MK P ρ A (.cell s t)=qk P A t (Ns (get ρ s)):=rfl
theorem Wh(t:TypeId)(a:Addr):qk P A t (some a)=Ew P A t a:=rfl
end
theorem iy(k k':IntKind)(a b:Int)(K:IntKind→Int→Int→Prop):qY (.int k a) (.int k' b) K=K k a b:=rfl
theorem aY(x y:TypeId)(K:Value→Prop):aX (some (.map x y)) K=K (.int .i64 0):=rfl
theorem Bu.nu{ν:Nu}{A:AH}(f:Bu ν A)(i j:Nat):(ν i=ν j)=(i=j):=propext ⟨f.1 i j,fun e=>by rw[e]⟩
theorem Bu.ne{ν:Nu}{A:AH}(f:Bu ν A){b:Nat}(h:AA A b≠none)(i:Nat):((b=ν i)=False)∧((ν i=b)=False):=
 ⟨eq_false fun e=>h (by rw[e];exact f.2 i),eq_false fun e=>h (by rw[←e];exact f.2 i)⟩
theorem YX(A:AH):SubA [] A=True:=eq_true (SubA.nil A)
theorem YY(A:AH):Mr [] A=True:=rfl
theorem VX(b:Nat)(o:Obj)(A B:AH):Mr ((b,o)::A) B=(AA B b=some o∧Mr A B):=rfl
theorem Qe: ∀{A:AH} {b:Nat},b∈A.map (fun p=>p.1)→AA A b≠none
 | (x,o)::A,b,h=>by
  simp only[AA]
  split
  ·simp
  ·rename_i hne
   rcases List.mem_cons.1 h with rfl|h
   ·exact absurd rfl hne
   ·exact Qe h
theorem Bu.mem{ν:Nu}{A:AH}(f:Bu ν A){b:Nat}(h:b∈A.map (fun p=>p.1))(i:Nat):((b=ν i)=False)∧((ν i=b)=False):=f.ne (Qe h) i
theorem Bu.m1{ν:Nu}{A:AH}(f:Bu ν A){b:Nat}{o:Obj}{B:AH}(e:A=(b,o)::B):(∀i,((b=ν i)=False)∧((ν i=b)=False))∧ ∀i j,(ν i=ν j)=(i=j):=⟨f.mem (by simp[e]),f.nu⟩
theorem Bu.m2{ν:Nu}{A:AH}(f:Bu ν A){b c:Nat}{o p:Obj}{B:AH}(e:A=(b,o)::(c,p)::B):(∀i,((b=ν i)=False)∧((ν i=b)=False))∧(∀i,((c=ν i)=False)∧((ν i=c)=False))∧ ∀i j,(ν i=ν j)=(i=j):=⟨f.mem (by simp[e]),f.mem (by simp[e]),f.nu⟩
theorem Bu.m3{ν:Nu}{A:AH}(f:Bu ν A){b c d:Nat}{o p q:Obj}{B:AH}(e:A=(b,o)::(c,p)::(d,q)::B):(∀i,((b=ν i)=False)∧((ν i=b)=False))∧(∀i,((c=ν i)=False)∧((ν i=c)=False))∧(∀i,((d=ν i)=False)∧((ν i=d)=False))∧ ∀i j,(ν i=ν j)=(i=j):=⟨f.mem (by simp[e]),f.mem (by simp[e]),f.mem (by simp[e]),f.nu⟩
theorem BA(A B:AH)(b:Nat):AA (A++B) b=match AA A b with|some o=>some o|none=>AA B b:=by
 induction A with
 |nil=>rfl
 |cons p A ih=>
  simp only[List.cons_append,AA]
  split
  ·rfl
  ·exact ih
theorem AK.frame{P:Program}{g:FuncId}{args:Array Value}{A A0:AH}{K0 K:Value→AH→Prop}(hc:AK P g args A0 K0)(hs:SubA A0 A)
  (hk: ∀v B,K0 v B→(∀b,AA A0 b≠none→AA B b≠none)∧((∀b,AA B b≠none→AA A0 b=none→AA A b=none)→K v (B++A))):AK P g args A K:=fun h hA=>
 (hc h (hA.sub hs)).mono fun e h' ⟨v,B,h1,h2,h3,h4⟩=>by
  obtain⟨k1,k2⟩:=hk v B h4
  refine⟨v,B++A,h1,fun b o hl=> ?_,⟨h3.1,fun b hb hl=> ?_⟩,k2 fun b hb hn=> ?_⟩
  ·rw[BA]at hl
   split at hl
   ·rename_i u hu;cases hl;exact h2 b _ hu
   ·rename_i hu
    have h0:AA A0 b=none:=by
     cases ho:AA A0 b with
     |none=>rfl
     |some u=>exact absurd hu (k1 b (by rw[ho];simp))
    have hlt:=hA.lt hl
    rw[(h3.2 b hlt h0).1]
    exact hA b o hl
  ·have h0:=hs.none hl
   refine⟨(h3.2 b hb h0).1, ?_⟩
   rw[BA,(h3.2 b hb h0).2]
   exact hl
  ·cases ho:AA A b with
   |none=>rfl
   |some u=>exact absurd (h3.2 b (hA.lt ho) hn).2 hb
theorem AR.weak[dd:DefD]{c:CxA}{body:Code}{k:List It}{ρ ρ':Ak}{A A':AH}(hl: @AR dd c body k ρ A ())(hs:Ah ρ ρ')(ha:SubA A A'): @AR dd c body k ρ' A' ():=fun A0 h0 h hA kp=>
 Au.weak (hl A0 h0 h (hA.sub ha) (kp.sub ha)) hs
section
variable (P:Program) (n:Nat) (sp:Bool) (all:List Oper) (m:Nat) (ρ:Ak) (A:AH) (K:Ak→Prop)
variable (dst:Option Nat) (ty:TypeId) (pos:String) (aft:Array Edge) (gd:Option (Nat×Bool)) (rest:List Oper)
theorem nS(cur:Option (Nat×Bool)):BJ P n sp all A (m+1) cur [] ρ K=K ρ:=rfl
theorem be(op:Op):BJ P n sp all A (m+1) none (⟨dst,op,ty,pos,aft,none⟩::rest) ρ K=
  BF P n ⟨dst,op,ty,pos,aft,none⟩ ρ A (fun ρ'=>BJ P n sp all A m none rest ρ' K):=by simp[BJ]
theorem rD(op:Op)(g:Nat×Bool):BJ P n sp all A (m+1) (some g) (⟨dst,op,ty,pos,aft,some g⟩::rest) ρ K=
  BF P n ⟨dst,op,ty,pos,aft,some g⟩ ρ A (fun ρ'=>BJ P n sp all A m (some g) rest ρ' K):=by simp[BJ]
noncomputable def Oe(cur:Option (Nat×Bool))(j:Nat)(want:Bool)(g after:List Oper)(s:Nat)(b:Bool)(pure:Bool):Prop:=
 match pure,after with
 |true,p::after'=>match Bv want s p.op with
  |some y=>BJ P n sp all A m (some (j,want)) g ρ (fun ρ'=>AZ (Aa ρ' y) fun c=>CO n p.dst want b c (Ck g ρ) fun ρ''=>BJ P n sp all A m cur after' ρ'' K)
  |none=>False
 |_,after=>KJ (b==want) (BJ P n sp all A m (some (j,want)) g ((s,some (.bool want))::ρ) (fun ρ'=>BJ P n sp all A m cur after ρ' K)) (BJ P n sp all A m cur after (Ck g ((s,some (.bool (!want)))::ρ)) K)
@[congr] theorem gpQA_congr {P:Program} {n:Nat} {sp:Bool} {all:List Oper} {m:Nat} {ρ:Ak} {A:AH} {K:Ak→Prop} {cur:Option (Nat×Bool)} {j:Nat} {want:Bool} {g g' after after':List Oper} {s:Nat} {b pu pu':Bool} (h1:g=g') (h2:after=after') (h3:pu=pu'):
  Oe P n sp all m ρ A K cur j want g after s b pu=Oe P n sp all m ρ A K cur j want g' after' s b pu':=by rw[h1,h2,h3]
noncomputable def mV(cur:Option (Nat×Bool))(j:Nat)(want:Bool)(g after:List Oper)(s:Nat)(v:Value):Prop:=
 match v with| .bool b=>Ay (Br all s j want [] g=true) (Oe P n sp all m ρ A K cur j want g after s b (Fc sp g))|_=>False
theorem WT(cur:Option (Nat×Bool))(j:Nat)(want:Bool)(g after:List Oper)(s:Nat)(b:Bool):mV P n sp all m ρ A K cur j want g after s (.bool b)=
  Ay (Br all s j want [] g=true) (Oe P n sp all m ρ A K cur j want g after s b (Fc sp g)):=rfl
theorem bd(op:Op)(cur:Option (Nat×Bool))(j:Nat)(want:Bool)(hne: ¬some (j,want)=cur):BJ P n sp all A (m+1) cur (⟨dst,op,ty,pos,aft,some (j,want)⟩::rest) ρ K=
  AZ (Bq all j) fun s=>AZ (get ρ s) fun v=>mV P n sp all m ρ A K cur j want
   (⟨dst,op,ty,pos,aft,some (j,want)⟩::A7 cur rest) (BQ cur rest) s v:=by
 have h1:A7 cur (⟨dst,op,ty,pos,aft,some (j,want)⟩::rest)=⟨dst,op,ty,pos,aft,some (j,want)⟩::A7 cur rest:=by simp[A7,hne]
 have h2:BQ cur (⟨dst,op,ty,pos,aft,some (j,want)⟩::rest)=BQ cur rest:=by simp[BQ,hne]
 rw[BJ,if_neg hne,h1,h2]
 congr 1
theorem jV(op:Op)(j:Nat)(want:Bool):BJ P n sp all A (m+1) none (⟨dst,op,ty,pos,aft,some (j,want)⟩::rest) ρ K=
  AZ (Bq all j) fun s=>AZ (get ρ s) fun v=>mV P n sp all m ρ A K none j want
   (⟨dst,op,ty,pos,aft,some (j,want)⟩::A7 none rest) (BQ none rest) s v:=bd P n sp all m ρ A K dst ty pos aft rest op none j want (by simp)
theorem iX(cur:Option (Nat×Bool))(j:Nat)(want:Bool)(g after:List Oper)(s:Nat)(b:Bool):Oe P n sp all m ρ A K cur j want g after s b false=
  KJ (b==want) (BJ P n sp all A m (some (j,want)) g ((s,some (.bool want))::ρ) (fun ρ'=>BJ P n sp all A m cur after ρ' K)) (BJ P n sp all A m cur after (Ck g ((s,some (.bool (!want)))::ρ)) K):=rfl
theorem iY(cur:Option (Nat×Bool))(j:Nat)(g after:List Oper)(s:Nat)(b:Bool)(y:Operand):Oe P n sp all m ρ A K cur j false g (⟨dst,.pick (.tmp s) (.const (.bool true)) y,ty,pos,aft,gd⟩::after) s b true=
  BJ P n sp all A m (some (j,false)) g ρ (fun ρ'=>AZ (Aa ρ' y) fun c=>CO n dst false b c (Ck g ρ) fun ρ''=>BJ P n sp all A m cur after ρ'' K):=by simp[Oe,Bv]
theorem Z9(cur:Option (Nat×Bool))(j:Nat)(g after:List Oper)(s:Nat)(b:Bool)(y:Operand):Oe P n sp all m ρ A K cur j true g (⟨dst,.pick (.tmp s) y (.const (.bool false)),ty,pos,aft,gd⟩::after) s b true=
  BJ P n sp all A m (some (j,true)) g ρ (fun ρ'=>AZ (Aa ρ' y) fun c=>CO n dst true b c (Ck g ρ) fun ρ''=>BJ P n sp all A m cur after ρ'' K):=by simp[Oe,Bv]
theorem dG(x:Operand):BF P n ⟨dst,.move x,ty,pos,aft,gd⟩ ρ A K=Am P n ⟨dst,.move x,ty,pos,aft,gd⟩ ρ #[] (fun ρ' _=>K ρ') fun _ _=>False:=BB rfl
theorem Tj(x:Operand):BF P n ⟨dst,.assign x,ty,pos,aft,gd⟩ ρ A K=Am P n ⟨dst,.assign x,ty,pos,aft,gd⟩ ρ #[] (fun ρ' _=>K ρ') fun _ _=>False:=BB rfl
theorem dH(x a b:Operand):BF P n ⟨dst,.pick x a b,ty,pos,aft,gd⟩ ρ A K=Am P n ⟨dst,.pick x a b,ty,pos,aft,gd⟩ ρ #[] (fun ρ' _=>K ρ') fun _ _=>False:=BB rfl
theorem PH(x:Operand):BF P n ⟨dst,.nilCheck x,ty,pos,aft,gd⟩ ρ A K=Am P n ⟨dst,.nilCheck x,ty,pos,aft,gd⟩ ρ #[] (fun ρ' _=>K ρ') fun _ _=>False:=BB rfl
theorem Xy(op:BinOp)(t:TypeId)(x y:Operand)(t2:TypeId):BF P n ⟨dst,.binOp op t x y t2,ty,pos,aft,gd⟩ ρ A K=Am P n ⟨dst,.binOp op t x y t2,ty,pos,aft,gd⟩ ρ #[] (fun ρ' _=>K ρ') fun _ _=>False:=BB rfl
theorem dJ(op:UnOp)(t:TypeId)(x:Operand):BF P n ⟨dst,.unOp op t x,ty,pos,aft,gd⟩ ρ A K=Am P n ⟨dst,.unOp op t x,ty,pos,aft,gd⟩ ρ #[] (fun ρ' _=>K ρ') fun _ _=>False:=BB rfl
theorem Ju(t:TypeId)(x:Operand):BF P n ⟨dst,.makeInterface t x,ty,pos,aft,gd⟩ ρ A K=Am P n ⟨dst,.makeInterface t x,ty,pos,aft,gd⟩ ρ #[] (fun ρ' _=>K ρ') fun _ _=>False:=BB rfl
theorem NH(t:TypeId)(x:Operand)(i:Nat):BF P n ⟨dst,.fieldAddr t x i,ty,pos,aft,gd⟩ ρ A K=Am P n ⟨dst,.fieldAddr t x i,ty,pos,aft,gd⟩ ρ #[] (fun ρ' _=>K ρ') fun _ _=>False:=BB rfl
theorem X1(t:TypeId)(x:Operand)(i:Nat):BF P n ⟨dst,.field t x i,ty,pos,aft,gd⟩ ρ A K=Am P n ⟨dst,.field t x i,ty,pos,aft,gd⟩ ρ #[] (fun ρ' _=>K ρ') fun _ _=>False:=BB rfl
theorem NJ(t:TypeId)(x i:Operand):BF P n ⟨dst,.indexAddr t x i,ty,pos,aft,gd⟩ ρ A K=Am P n ⟨dst,.indexAddr t x i,ty,pos,aft,gd⟩ ρ #[] (fun ρ' _=>K ρ') fun _ _=>False:=BB rfl
theorem X2(t:TypeId)(x i:Operand):BF P n ⟨dst,.index t x i,ty,pos,aft,gd⟩ ρ A K=Am P n ⟨dst,.index t x i,ty,pos,aft,gd⟩ ρ #[] (fun ρ' _=>K ρ') fun _ _=>False:=BB rfl
theorem RJ(x:Operand)(i:Nat):BF P n ⟨dst,.extract x i,ty,pos,aft,gd⟩ ρ A K=Am P n ⟨dst,.extract x i,ty,pos,aft,gd⟩ ρ #[] (fun ρ' _=>K ρ') fun _ _=>False:=BB rfl
theorem Xz(t:TypeId)(ps:List (Nat×Operand)):BF P n ⟨dst,.build t ps.toArray,ty,pos,aft,gd⟩ ρ A K=Am P n ⟨dst,.build t ps.toArray,ty,pos,aft,gd⟩ ρ #[] (fun ρ' _=>K ρ') fun _ _=>False:=BB rfl
theorem X3(t:TypeId)(x:Operand)(lo hi:Option Operand):BF P n ⟨dst,.slice t x lo hi none,ty,pos,aft,gd⟩ ρ A K=Am P n ⟨dst,.slice t x lo hi none,ty,pos,aft,gd⟩ ρ #[] (fun ρ' _=>K ρ') fun _ _=>False:=BB rfl
theorem Tm(t:TypeId)(x m:Operand)(lo hi:Option Operand):BF P n ⟨dst,.slice t x lo hi (some m),ty,pos,aft,gd⟩ ρ A K=AZ (Aa ρ x) fun v=>AZ (ET ρ lo) fun l=>AZ (ET ρ hi) fun r=>AZ (Aa ρ m) fun mv=>NE P t v l r mv fun u=>Ac n dst u ρ fun ρ'=>K ρ':=BB rfl
theorem cz(f:Operand)(xs:List Operand)(ts:Array TypeId):BF P n ⟨dst,.call ⟨.value f,xs.toArray,ts⟩,ty,pos,aft,gd⟩ ρ A K=AZ (Aa ρ f) fun fv=>AZ (GD ρ xs) fun vs=>OL P fv vs A fun u=>Ac n dst u ρ K:=rfl
theorem dF(t:TypeId)(x:Operand):BF P n ⟨dst,.load t x,ty,pos,aft,gd⟩ ρ A K=AZ (Aa ρ x) fun p=>AZ (Co p) fun a=>AZ (Ew P A t a) fun u=>Ac n dst u ρ K:=rfl
theorem RH(s d:TypeId)(x:Operand):BF P n ⟨dst,.convert s d x,ty,pos,aft,gd⟩ ρ A K=AZ (Aa ρ x) fun v=>JO P s d (P.underlying s) (P.underlying d) v A fun u=>Ac n dst u ρ K:=rfl
theorem Tl(t:TypeId)(x i:Operand)(ok:Bool):BF P n ⟨dst,.lookup t x i ok,ty,pos,aft,gd⟩ ρ A K=AZ (Aa ρ x) fun m=>AZ (Aa ρ i) fun k=>AZ (Ex P (Instr.lookup t m k ok) A) fun u=>Ac n dst u ρ K:=rfl
theorem j8(x:Operand)(t:TypeId):BF P n ⟨dst,.call ⟨.builtin .len,#[x],#[t]⟩,ty,pos,aft,gd⟩ ρ A K=AZ (Aa ρ x) fun v=>HT P t v A fun u=>Ac n dst u ρ K:=by
 unfold BF
 simp only[GD]
 cases Aa ρ x<;>simp[AZ,Dd]
theorem Q6(t:TypeId)(x i:Operand)(ok:Bool):CT sp (.lookup t x i ok)=false:=rfl
theorem Pp(g:FuncId)(fs vs cs:List Value)(K:Value→Prop):OL P (.func (.func g) fs.toArray cs.toArray) vs A K=Ay (BR P g=true) (AZ (Ag P g (fs++vs++cs).toArray A) K):=by
 unfold OL;simp
@[congr] theorem cnvQA_congr {P:Program} {s d:TypeId} {us us' ud ud':Option TypeDesc} {x:Value} {A:AH} {K:Value→Prop} (h1:us=us') (h2:ud=ud'):JO P s d us ud x A K=JO P s d us' ud' x A K:=by rw[h1,h2]
theorem Vu(s d:TypeId)(k k':IntKind)(a:Int)(ds:TypeDesc)(K:Value→Prop):JO P s d (some ds) (some (.int k)) (.int k' a) A K=K (.int k (k.wrap a)):=by cases ds<;>rfl
theorem Vv(s d:TypeId)(ds:TypeDesc)(x:Value)(K:Value→Prop):JO P s d (some ds) (some .string) x A K=AZ (Ex P (convert s d x) A) K:=by cases ds<;>rfl
end
theorem Oz{P:Program}{g:FuncId}{args:Array Value}{A:AH}{v:Value}(hi:P.inits.idxOf? g=none)(hc:BR P g=true)(hp: ∀h,CallsH P g args h fun e h'=>e=.returned v∧Grew h h'):Ag P g args A=some v:=
 AX ⟨fun _=>hi,fun h _=>by unfold Di;rw[if_pos hc];exact hp h⟩
theorem C3{P:Program}{g:FuncId}{args:Array Value}{A:AH}{v:Value}(hi:P.inits.idxOf? g=none)(hc:BR P g=true)(hp: ∀h,CallsH P g args h fun e h'=>e=.returned v∧h'=h):Ag P g args A=some v:=
 Oz hi hc fun h=>(hp h).mono0 fun e h' ⟨h1,h2⟩=>⟨h1,by rw[h2];exact Grew.refl h⟩
@[congr] theorem opSG_congr {P:Program} {imp:Imp} {nt:Nat} {all:List Oper} {As:AH} {m:Nat} {ν:Nu} {n:Nat} {ρ:Ak} {A:AH} {K:AH→Nu→Nat→Ak→AH→Prop} {o o':Option Oper} (e:o=o'):D6 P imp nt all As m ν n ρ A K o=D6 P imp nt all As m ν n ρ A K o':=by rw[e]
noncomputable def Qm(P:Program)(imp:Imp)(nt:Nat)(As:AH)(m:Nat)(ν:Nu)(n:Nat)(ρ:Ak)(A:AH)(K:AH→Nu→Nat→Ak→AH→Prop)(o:Oper)(b:Bool):Prop:=match b with
 |true=>BF P nt o ρ As fun ρ'=>K As ν n ρ' A
 |false=>BC P imp nt o ν n ρ A fun ν n ρ' A'=>Ep As A' m fun As'=>K As' ν n ρ' A'
@[congr] theorem opSB_congr {P:Program} {imp:Imp} {nt:Nat} {As:AH} {m:Nat} {ν:Nu} {n:Nat} {ρ:Ak} {A:AH} {K:AH→Nu→Nat→Ak→AH→Prop} {o:Oper} {b b':Bool} (e:b=b'):Qm P imp nt As m ν n ρ A K o b=Qm P imp nt As m ν n ρ A K o b':=by rw[e]
section
variable (P:Program) (imp:Imp) (nt:Nat) (all:List Oper) (As:AH) (m:Nat) (ν:Nu) (n:Nat) (ρ:Ak) (A:AH) (K:AH→Nu→Nat→Ak→AH→Prop) (K0:Nu→Nat→Ak→AH→Prop)
variable (dst:Option Nat) (ty:TypeId) (pos:String) (aft:Array Edge) (gd:Option (Nat×Bool))
theorem nn:Cf P imp nt all [] As ν n ρ A K0=K0 ν n ρ A:=rfl
theorem jx(i:Nat)(l:List (Nat×Nat)):Cf P imp nt all ((i,m)::l) As ν n ρ A K0=D6 P imp nt all As m ν n ρ A (fun As ν n ρ' A=>Cf P imp nt all l As ν n ρ' A K0) all[i]? :=rfl
theorem Wm(op:Op):D6 P imp nt all As m ν n ρ A K (some ⟨dst,op,ty,pos,aft,none⟩)=Qm P imp nt As m ν n ρ A K ⟨dst,op,ty,pos,aft,none⟩ (A8 imp op):=by
 simp only[D6,Hv,Qm];cases A8 imp op<;>simp
theorem Wn(op:Op)(j:Nat)(want:Bool):D6 P imp nt all As m ν n ρ A K (some ⟨dst,op,ty,pos,aft,some (j,want)⟩)=AZ (Bq all j) fun s=>AZ (get ρ s) fun v=>eP want v (Qm P imp nt As m ν n ρ A K ⟨dst,op,ty,pos,aft,some (j,want)⟩ (A8 imp op)) (Ac nt dst undef ρ fun ρ'=>K As ν n ρ' A):=by
 simp only[D6,Hv,Qm];cases A8 imp op<;>simp
theorem Wl(o:Oper):Qm P imp nt As m ν n ρ A K o true=BF P nt o ρ As fun ρ'=>K As ν n ρ' A:=rfl
theorem So(o:Oper):Qm P imp nt As m ν n ρ A K o false=BC P imp nt o ν n ρ A fun ν n ρ' A'=>Ep As A' m fun As'=>K As' ν n ρ' A':=rfl
theorem i8(A':AH)(K:AH→Prop):Ep As A' 0 K=Ay (SubA As A') (K As):=rfl
theorem jA(A':AH)(K:AH→Prop):Ep As A' 1 K=Ay (SubA As A') (K A'):=rfl
theorem VW{b:Nat}{o:Obj}{A B:AH}(h:AA B b=some o)(k:SubA A B):SubA ((b,o)::A) B:=fun x u hl=>by
 simp only[AA]at hl
 split at hl
 ·rename_i e;subst e;cases hl;exact h
 ·exact k x u hl
theorem jB(A':AH)(K:AH→Prop):Ep As A' 2 K=K A':=rfl
theorem Xq(l:List Nat)(X:Xp)(g:Nat)(xs:Array Operand)(ts:Array TypeId):A8 ⟨l,X⟩ (.call ⟨.value (.func g),xs,ts⟩)= !l.contains g:=rfl
theorem Te(x:Operand):A8 imp (.panic x)=false:=rfl
theorem Xv(x:Operand):A8 imp (.move x)=true:=rfl
theorem RB(x:Operand):A8 imp (.assign x)=true:=rfl
theorem Xw(x a b:Operand):A8 imp (.pick x a b)=true:=rfl
theorem Ta(t:TypeId)(ps:Array (Nat×Operand)):A8 imp (.build t ps)=true:=rfl
theorem Xu(t:TypeId)(x:Operand):A8 imp (.load t x)=true:=rfl
theorem NG(x:Operand):A8 imp (.nilCheck x)=true:=rfl
theorem TY(op:BinOp)(t:TypeId)(x y:Operand)(t':TypeId):A8 imp (.binOp op t x y t')=true:=rfl
theorem Xx(op:UnOp)(t:TypeId)(x:Operand):A8 imp (.unOp op t x)=true:=rfl
theorem H3(t:TypeId)(x:Operand):A8 imp (.makeInterface t x)=true:=rfl
theorem NF(f:Fn)(x y:Array Operand):A8 imp (.makeFunc f x y)=true:=rfl
theorem MX(t:TypeId)(x:Operand)(i:Nat):A8 imp (.fieldAddr t x i)=true:=rfl
theorem Tc(t:TypeId)(x:Operand)(i:Nat):A8 imp (.field t x i)=true:=rfl
theorem MY(t:TypeId)(x i:Operand):A8 imp (.indexAddr t x i)=true:=rfl
theorem Td(t:TypeId)(x i:Operand):A8 imp (.index t x i)=true:=rfl
theorem PF(x:Operand)(i:Nat):A8 imp (.extract x i)=true:=rfl
theorem Tf(t:TypeId)(x:Operand)(a b c:Option Operand):A8 imp (.slice t x a b c)=true:=rfl
theorem PE(s d:TypeId)(x:Operand):A8 imp (.convert s d x)=true:=rfl
theorem RE(t:TypeId)(x i:Operand)(ok:Bool):A8 imp (.lookup t x i ok)=true:=rfl
theorem cy(xs:Array Operand)(ts:Array TypeId):A8 imp (.call ⟨.builtin .len,xs,ts⟩)=true:=rfl
theorem RA(xs:Array Operand)(ts:Array TypeId):A8 imp (.call ⟨.builtin .append,xs,ts⟩)=false:=rfl
theorem Xt(xs:Array Operand)(ts:Array TypeId):A8 imp (.call ⟨.builtin .copy,xs,ts⟩)=false:=rfl
theorem RC(xs:Array Operand)(ts:Array TypeId):A8 imp (.call ⟨.builtin .delete,xs,ts⟩)=false:=rfl
theorem Tb(xs:Array Operand)(ts:Array TypeId):A8 imp (.call ⟨.builtin .clear,xs,ts⟩)=false:=rfl
theorem Th(t:TypeId)(x y:Operand):A8 imp (.store t x y)=false:=rfl
theorem TX(t:TypeId):A8 imp (.alloc t)=false:=rfl
theorem cw(t:TypeId)(x:Operand):A8 imp (.box t x)=false:=rfl
theorem K3(t:TypeId)(m:Nat)(ps:Array (Nat×Operand)):A8 imp (.buildSlice t m ps)=false:=rfl
theorem PG(t:TypeId)(x:Option Operand):A8 imp (.makeMap t x)=false:=rfl
theorem Ma(t:TypeId)(x i y:Operand):A8 imp (.mapUpdate t x i y)=false:=rfl
theorem RD(t:TypeId)(x i y:Operand):A8 imp (.insert t x i y)=false:=rfl
theorem MZ(t:TypeId)(l c:Operand):A8 imp (.makeSlice t l c)=false:=rfl
theorem OP(g:Nat):([]:List Nat).contains g=false:=rfl
theorem contains_cons(x g:Nat)(l:List Nat):(x::l).contains g=if g=x then true else l.contains g:=by rw[List.contains_cons];by_cases h:g=x<;>simp[h]
end
def uR:=An @H4 (An @RQ (An @Tq (An @RP (An @lh (An @lg (An @pm (An @ph (An @fj (An @ZB (An @lj (An @ll (An @fe (An @ZA (An @ZC (An @fh (An @Vx (An @R5 (An @fg (An @ZD (An @jg (An @nA (An @bB (An @qg (An @jJ (An @bA (An @aC (An @mQ (An @mR (An @iW (An @jp (An @Xb (An @jr (An @Q2 (An @cD (An @ju (An @KR (An @O6 (An @cG (An @O7 (An @cH (An @TN (An @cE (An @Q1 (An @cL (An @Xf (An @j6 (An @jm (An @jo (An @cM (An @cJ (An @cC (An @nb (An @NB (An @TO (An @TM (An @O8 (An @Xe (An @O9 (An @Xd (An @cK (An @jq (An @NC (An @ng (An @ni (An @nh (An @Xa (An @jn (An @Xc (An @cF (An @nf (An @Rr (An @aW (An @aV (An @aU (An @WX (An @Pw (An @NV (An @Px (An @Li (An @JN (An @S4 (An @We (An @iy @eg)))))))))))))))))))))))))))))))))))))))))))))))))))))))))))))))))))))))))))))))))))
def uW:=An @d8 (An @pw (An @pq (An @pn (An @Ss (An @Qp (An @eR (An @Ro (An @Vk (An @Rp (An @jP (An @Pw (An @NV (An @Px (An @Li (An @JN (An @Wf (An @ac (An @Wa (An @bZ (An @XM (An @XR (An @jY (An @jZ (An @ot (An @YE (An @XT (An @S7 (An @XV (An @S8 (An @Wh (An @aY (An @YY @VX))))))))))))))))))))))))))))))))
def uU:=An @nn (An @jx (An @Wm (An @Wn (An @i8 (An @jA (An @jB (An @YX (An @VW (An @QR @Ng)))))))))
def uV:=An @Wl (An @So (An @Xq (An @Te (An @Xv (An @RB (An @Xw (An @Ta (An @Xu (An @NG (An @TY (An @Xx (An @H3 (An @NF (An @MX (An @Tc (An @MY (An @Td (An @PF (An @Tf (An @PE (An @RE (An @cy (An @RA (An @Xt (An @RC (An @Tb (An @Th (An @TX (An @cw (An @K3 (An @PG (An @Ma (An @RD (An @MZ (An @OP (An @contains_cons (An @QR @Ng)))))))))))))))))))))))))))))))))))))
def uS:=An @nS (An @be (An @rD (An @WT (An @bd (An @jV (An @iX (An @iY (An @Z9 (An @dG (An @Tj (An @dH (An @PH (An @Xy (An @dJ (An @Ju (An @NH (An @X1 (An @NJ (An @X2 (An @RJ (An @Xz (An @X3 (An @Tm (An @cz (An @dF (An @RH (An @Tl (An @j8 @Pp))))))))))))))))))))))))))))
def uT:=An @N8 (An @MO (An @Q6 (An @Vu @Vv)))
end Go.Vm
namespace Go.Vm
def Ea(e:TypeId)(size:Nat)(v:Value)(B:AH)(n:Nat)(xs:List Value):Prop:=
 xs.length=n*size∧((v=.slice none 0 0∧B=[]∧n=0)∨ ∃g cap cur,v=.slice (some ⟨g,0,none⟩) n cap∧B=[(g,.cells cur e)]∧n≤cap∧cap≤maxLen∧cur.size=cap*size∧cur.toList.take (n*size)=xs)
theorem Ea.nil(e:TypeId)(size:Nat):Ea e size (.slice none 0 0) [] 0 []:=⟨by simp,.inl ⟨rfl,rfl,rfl⟩⟩
theorem Ea.at{e:TypeId}{size g n:Nat}{xs:List Value}(h:xs.length=n*size)(hn:n≤maxLen):Ea e size (.slice (some ⟨g,0,none⟩) n n) [(g,.cells xs.toArray e)] n xs:=
 ⟨h,.inr ⟨g,n,xs.toArray,rfl,rfl,Nat.le_refl _,hn,by simpa using h,by rw[←h];simp⟩⟩
theorem Ea.read{e:TypeId}{size:Nat}{v:Value}{B:AH}{n:Nat}{xs:List Value}(o:Ea e size v B n xs)(hn:0<n):
  ∃g cap cur,v=.slice (some ⟨g,0,none⟩) n cap∧B=[(g,.cells cur e)]∧ ∀i,i<n→DW (some (.cells cur e)) (i*size) size=some ((xs.drop (i*size)).take size).toArray:=by
 obtain⟨h1,h2⟩:=o
 rcases h2 with⟨_,_,h3⟩|⟨g,cap,cur,rfl,rfl,h5,h6,h7,h8⟩
 ·omega
 ·refine⟨g,cap,cur,rfl,rfl,fun i hi=> ?_⟩
  have e1:i*size+size≤n*size:=by rw[←Nat.succ_mul];exact Nat.mul_le_mul_right _ hi
  have e2:n*size≤cap*size:=Nat.mul_le_mul_right _ h5
  rw[B7,if_pos (by omega)]
  congr 1
  apply Array.ext'
  simp only[Array.toList_extract]
  rw[←h8]
  simp only[List.extract_eq_take_drop,List.drop_take,List.take_take]
  congr 1
  omega
theorem F7{B A:AH}{x:Nat}(h:AA B x=none):AA (B++A) x=AA A x:=by rw[BA,h]
theorem AD{B A:AH}{x:Nat}(h:AA B x=none)(h2:AA A x=none):AA (B++A) x=none:=by rw[F7 h,h2]
theorem Bu.app{ν:Nu}{B A:AH}(f:Bu ν (B++A))(i:Nat):AA B (ν i)=none:=by
 have:=f.2 i
 rw[BA]at this
 cases h:AA B (ν i)with
 |none=>rfl
 |some o=>rw[h]at this;cases this
theorem SubA.app{B A C:AH}(h:SubA A C):SubA (B++A) (B++C):=fun b o hl=>by
 rw[BA]at hl⊢
 cases hb:AA B b with
 |some u=>rw[hb]at hl;exact hl
 |none=>rw[hb]at hl;exact h b o hl
theorem SubA.skip{A C:AH}{x:Nat}{o:Obj}(hx:AA A x=Option.none)(h:SubA A C):SubA A ((x,o)::C):=fun b u hl=>by
 simp only[AA]
 rw[if_neg (fun e=>by rw[e,hl]at hx;cases hx)]
 exact h b u hl
theorem SubA.trans{A B C:AH}(h:SubA A B)(k:SubA B C):SubA A C:=fun b o hl=>k b o (h b o hl)
theorem SubA.left(B A:AH):SubA B (B++A):=fun b o hl=>by rw[BA,hl]
theorem SubA.right{B A:AH}(h: ∀b,AA A b≠Option.none→AA B b=Option.none):SubA A (B++A):=fun b o hl=>by rw[F7 (h b (by rw[hl];simp))];exact hl
theorem CU{c:Array Value}{e:TypeId}{fr:Nat×Nat}{o n:Nat}{l:List Value}(h:DW (some (.cells c e fr)) o n=some l.toArray):l.length=n∧ ∀j u,l[j]? =some u→c[o+j]? =some u:=by
 unfold DW at h
 simp only at h
 split at h
 ·rename_i hle
  have h1:=Option.some.inj h
  have h2:l=(c.extract o (o+n)).toList:=by rw[h1]
  refine⟨by rw[h2];simp;omega,fun j u hj=> ?_⟩
  rw[h2]at hj
  simp only[Array.getElem?_toList,Array.getElem?_extract]at hj
  split at hj
  ·exact hj
  ·cases hj
 ·cases h
theorem Hj{P:Program}{t ty e:TypeId}{size bytes:Nat}{z:Value}{A B:AH}{K:Value→AH→Prop}{n m c g off:Nat}{v:Value}{xs news:List Value}
  (hs:MW P t=some (e,size,bytes)) (hz:JA P e=some z) (hzs:z.cells.size=size) (hsz:0<size)
  (hown:Ea e size v B n xs) (hB:SubA B A) (hr:DW (AA A g) off (m*size)=some news.toArray) (h1: ∀u∈news,u.oneCell'=true)
  (h63:n+m≤maxLen) (hbytes:(n+m)*bytes≤140737488355328)
  (hK: ∀v' B',Ea e size v' B' (n+m) (xs++news)→(∀b,AA B' b≠none→AA B b≠none∨AA A b=none)→K v' (B'++A)):
  Fv P (Builtin.append_ #[t,t] ty #[v,.slice (some ⟨g,off,none⟩) m c]) A K:=by
 intro h hA w hw
 subst hw
 obtain⟨ht,i,hi,e1,e2⟩:=EC hs
 have hz':i.zero=some z:=by unfold JA at hz;rw[hi]at hz;exact hz
 simp only at e1 e2
 subst e1
 subst e2
 obtain⟨cc,ce,cfr,hlook⟩:=D7 hr
 rw[hlook]at hr
 obtain⟨hl,hcell⟩:=CU hr
 have hnews: ∀j u,news[j]? =some u→w.cell? ((⟨g,off,none⟩:Addr).add j)=some u:=by
  intro j u hj
  rw[Eb]
  have:=hA _ _ hlook
  simp only[World.cell?,this]
  simpa using hcell j u hj
 have hlen:(xs++news).length=(n+m)*i.size:=by rw[List.length_append,hown.1,hl,Nat.add_mul]
 have h63':n+m≤9223372036854775807:=by simp only[maxLen]at h63;omega
 -- a new row
 have fresh: ∀(cap:Nat) (old:Nat),cap=grownCap w (n+m) old e→Ea e i.size (.slice (some ⟨w.heap.size,0,none⟩) (n+m) cap) [(w.heap.size,.cells (xs.toArray++news.toArray++Builtin.zeroCells z.cells (cap - (n+m))) e)] (n+m) (xs++news):=by
  intro cap old hc
  have hge:=grownCap_ge w (n+m) old e
  have hcm:=grownCap_le_maxLen w (n+m) old e h63
  rw[←hc]at hge hcm
  refine⟨hlen,.inr ⟨_,cap,_,rfl,rfl,hge,hcm, ?_, ?_⟩⟩
  ·simp only[Array.size_append,List.size_toArray,size_zeroCells,hzs,hown.1,hl,←Nat.add_mul]
   congr 1
   omega
  ·simp only[Array.toList_append,List.append_assoc]
   rw[←List.append_assoc,←hlen]
   exact List.take_left
 have grew: ∀o:Obj,CQ ((w.heap.size,o)::A) (w.heap.push o)∧BN A w.heap ((w.heap.size,o)::A) (w.heap.push o):=fun o=>⟨hA.push,BN.push⟩
 have newb: ∀(o:Obj) (b:Nat),AA [(w.heap.size,o)] b≠none→AA B b≠none∨AA A b=none:=by
  intro o b hb
  simp only[AA]at hb
  split at hb
  ·rename_i e;subst e;exact .inr (hA.none_of_size (Nat.le_refl _))
  ·exact absurd rfl hb
 obtain⟨hxl,hv⟩:=hown
 rcases hv with⟨rfl,rfl,rfl⟩|⟨gb,cap,cur,rfl,rfl,hnc,hcm,hcs,htake⟩
 ·have hx:xs=[]:=List.eq_nil_of_length_eq_zero (by simpa using hxl)
  subst hx
  by_cases hm:m=0
  ·subst hm
   have hn:news=[]:=List.eq_nil_of_length_eq_zero (by simpa using hl)
   subst hn
   refine⟨.slice none 0 0,w, ?_,⟨rfl,rfl,rfl⟩,A,hA,BN.refl _ _, ?_⟩
   ·simp[Builtin.append_,run_underlying ht,sizeOf,typeInfo,hi,Builtin.lenOf,Builtin.firstCells,loadCells,loadCellsFrom]
   ·have:=hK (.slice none 0 0) [] (Ea.nil e i.size) (fun b hb=>absurd rfl hb)
    simpa using this
  ·have hr:=run_append_nil (P:=P) w t ty e i z ht hi hz' ⟨g,off,none⟩ m c news hl hnews (by omega) (by omega) (by have hb:=hbytes;simp only[Nat.zero_add]at hb;omega)
   have hgr:=fresh (grownCap w (0+m) 0 e) 0 rfl
   simp only[Nat.zero_add,List.nil_append,Array.empty_append]at hgr hr
   refine⟨_,_,hr,⟨rfl,rfl,rfl⟩,_,(grew _).1,(grew _).2, ?_⟩
   have:=hK _ _ (by simpa using hgr) (newb _)
   exact this
 ·have hgA:AA A gb=some (.cells cur e):=hB gb _ (by simp[AA])
  have hgb:=hA gb _ hgA
  by_cases hroom:n+m≤cap
  ·have hfit:n*i.size+news.length≤cur.size:=by rw[hl,hcs,←Nat.add_mul];exact Nat.mul_le_mul_right _ hroom
   have hr:=run_append_room (P:=P) w t ty e i ht hi gb n cap cur hgb ⟨g,off,none⟩ m c news hl hnews h1 hroom hfit
   refine⟨_,_,hr,⟨rfl,rfl,rfl⟩,[(gb,.cells (cur.toList.take (n*i.size)++news++cur.toList.drop (n*i.size+news.length)).toArray e)]++A,fun b o hl2=> ?_,⟨by simp,fun b hb hl2=> ?_⟩,hK _ _ ⟨hlen,.inr ⟨gb,cap,_,rfl,rfl,hroom,hcm, ?_, ?_⟩⟩ (fun b hb=> ?_)⟩
   ·simp only[List.cons_append,List.nil_append,AA]at hl2
    split at hl2
    ·rename_i e1
     subst e1
     rw[←hl2]
     exact setRow_heap w gb cur _ e _ hgb
    ·rename_i e1
     rw[setRow_other w gb b _ (fun h=>e1 h.symm)]
     exact hA b o hl2
   ·have hne:b≠gb:=fun h=>by rw[h,hgA]at hl2;cases hl2
    refine⟨setRow_other w gb b _ hne, ?_⟩
    simp only[List.cons_append,List.nil_append,AA]
    rw[if_neg (fun h=>hne h.symm),hl2]
   ·simp only[List.size_toArray,List.length_append,List.length_take,List.length_drop,Array.length_toList]
    omega
   ·rw[htake,←hlen]
    exact List.take_left
   ·simp only[AA]at hb⊢
    split at hb
    ·left;simp[*]
    ·exact absurd rfl hb
  ·have holds: ∀j u,xs[j]? =some u→w.cell? ((⟨gb,0,none⟩:Addr).add j)=some u:=by
    intro j u hj
    rw[Eb]
    simp only[World.cell?,hgb]
    rw[←htake]at hj
    rw[List.getElem?_take]at hj
    split at hj
    ·simpa using hj
    ·cases hj
   have hr:=run_append_grow (P:=P) w t ty e i z ht hi hz' ⟨gb,0,none⟩ n cap xs hxl holds ⟨g,off,none⟩ m c news hl hnews (by omega) (by omega) (growslice_fits (by omega) hbytes)
   refine⟨_,_,hr,⟨rfl,rfl,rfl⟩,_,(grew _).1,(grew _).2, ?_⟩
   exact hK _ _ (fresh _ cap rfl) (newb _)
end Go.Vm
