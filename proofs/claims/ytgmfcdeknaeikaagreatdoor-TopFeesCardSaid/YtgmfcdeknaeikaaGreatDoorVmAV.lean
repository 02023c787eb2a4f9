/-
Trees of plans, deferred calls, bytes of texts, strings.
Conditions: none.
-/
import Derived.Test.YtgmfcdeknaeikaaGreatDoorVmAR
import Derived.Recover
import Derived.Lib.UnsafeStr
import Derived.Lib.Builder
import Derived.Laws.BytesArg
import Derived.Laws.IdiomStrings
import Derived.Lib.AppendStr
import Derived.Handed
set_option linter.unusedSimpArgs false
set_option linter.unusedVariables false
namespace Go.Vm
set_option maxRecDepth 20000
inductive PT where
 |nil
 |one (i m:Nat) (p:PT)
 |two (i mi:Nat) (p:PT) (j mj:Nat) (q:PT)
def Eu(imp:Imp)(ops:Array Oper)(rs:Nat→Bool):Nat→PT→Array Bool→Bool
 |0,.nil,listed=>(Region.ready .any ops listed).isEmpty
 |N+1,.one i m p,listed=>(match ops[i]? with
  |some o=>if A8 imp o.op then(Region.ready .any ops listed).contains i&&Region.free .any ops listed i else Region.ready .any ops listed==[i]&&(if m=2 then rs i else true)
  |none=>false)&&Eu imp ops rs N p (listed.setIfInBounds i true)
 |N+1,.two i mi p j mj q,listed=>(match ops[i]?,ops[j]? with
  |some o,some u=>(o.guard.isNone&&(u.guard.isNone&&((!A8 imp o.op)&&((!A8 imp u.op)&&(Region.ready .any ops listed==[i,j]&&((if mi=2 then rs i else true)&&(if mj=2 then rs j else true)))))))
  |_,_=>false)&&(Eu imp ops rs N p (listed.setIfInBounds i true)&&Eu imp ops rs N q (listed.setIfInBounds j true))
 |_,_,_=>false
noncomputable def Cg(P:Program)(imp:Imp)(nt:Nat)(all:List Oper):PT→AH→Nu→Nat→Ak→AH→(Nu→Nat→Ak→AH→Prop)→Prop
 | .nil,_,ν,n,ρ,A,K=>K ν n ρ A
 | .one i m p,As,ν,n,ρ,A,K=>D6 P imp nt all As m ν n ρ A (fun As ν n ρ' A=>Cg P imp nt all p As ν n ρ' A K) all[i]?
 | .two i mi p j mj q,As,ν,n,ρ,A,K=>D6 P imp nt all As mi ν n ρ A (fun As ν n ρ' A=>Cg P imp nt all p As ν n ρ' A K) all[i]? ∧D6 P imp nt all As mj ν n ρ A (fun As ν n ρ' A=>Cg P imp nt all q As ν n ρ' A K) all[j]?
section
variable {P:Program} {imp:Imp} {nt:Nat} {all:List Oper} {Q:Exit→Act→World→Prop} {A0:AH} {h0:AL} {w0:World} {rs:Nat→Bool} {X:List PanicEntry→AL→Prop}
theorem kg[dd:DefD](hXQ: ∀ch a w,a.defers=DefD.ds→Gc imp.X A0 h0 ch w.heap→Ai w0 w→Q (.panic ch) a w){i m:Nat}{o:Oper}(ho:all[i]? =some o)(hg:o.guard=none)(hsf:A8 imp o.op=false)(hpm:m=2→rs i=true){G:AH→Nu→Nat→Ak→AH→Prop}{R:Act→SS→Prop}{ρ:Ak}{a:Act}{A As:AH}{ν:Nu}{n:Nat}
  (hk:BO nt ρ a) (f:Ca ν n A fun ν'=>D6 P imp nt all As m ν' n ρ A G (some o)) (rest: ∀{ρ':Ak} {a':Act} {A' As':AH} {ν':Nu} {n':Nat},BO nt ρ' a'→OE ν'→(∃h,St ν' n' A' h)→Ca ν' n' A' (fun ν''=>G As' ν'' n' ρ' A')→R a' ⟨A',ν',n',As'⟩):
  YW P Q (Dt A0 h0 w0) Gf rs all.toArray i a ⟨A,ν,n,As⟩ R:=by
 have ho':all.toArray[i]? =some o:=by simpa using ho
 have f3:Ca ν n A fun ν'=>BC P imp nt o ν' n ρ A fun ν n ρ' A'=>Ep As A' m fun As'=>G As' ν n ρ' A':=f.mono fun ν' h1=>by
  unfold D6 at h1;simp only[hg]at h1
  unfold Hv at h1;simp only[hsf]at h1;exact h1
 intro w ⟨hst,hkp,hre,hsub⟩
 unfold wpOp
 simp only[ho']
 rw[if_pos (by unfold Region.wanted;rw[hg])]
 refine .inl ?_
 have hw:=HA (X:=fun ch h'=>Gc imp.X A w.heap ch h') (fun _ _ p=>p) (K':=Dx (fun ν n ρ' A'=>Ep As A' m fun As'=>G As' ν n ρ' A') A w.heap) (fun ρ' h' p=>p) hst f3
 refine Ff (w0:=w0) (fun ch h a w hx hn hwh hr=>by subst hwh;exact hXQ ch a w hn.1 (hx.from hkp) hr) hw hk hre fun ρ' a' w' hp hk' hre' _=> ?_
 obtain⟨ν1,n1,A1,st1,kp1,f4⟩:=hp
 unfold Ep at f4
 by_cases hm2:m=2
 ·simp only[hm2,if_true]at f4
  exact⟨⟨A1,ν1,n1,A1⟩,⟨st1,hkp.trans kp1,hre',SubA.refl _⟩,fun h=>(by rw[hpm hm2]at h;cases h),rest hk' st1.inj ⟨w'.heap,st1⟩ f4⟩
 ·simp only[hm2,if_false]at f4
  have hsub1:=(st1.get f4).1
  by_cases hm1:m=1
  ·simp only[hm1,if_true]at f4
   exact⟨⟨A1,ν1,n1,A1⟩,⟨st1,hkp.trans kp1,hre',SubA.refl _⟩,fun _=>hsub1,rest hk' st1.inj ⟨w'.heap,st1⟩ (f4.mono fun ν' h1=>h1.2)⟩
  ·simp only[hm1,if_false]at f4
   exact⟨⟨A1,ν1,n1,As⟩,⟨st1,hkp.trans kp1,hre',hsub1⟩,fun _=>SubA.refl _,rest hk' st1.inj ⟨w'.heap,st1⟩ (f4.mono fun ν' h1=>h1.2)⟩
theorem P8[dd:DefD](hXQ: ∀ch a w,a.defers=DefD.ds→Gc imp.X A0 h0 ch w.heap→Ai w0 w→Q (.panic ch) a w)(hs:Region.noSelect all.toArray=true)(hrs:Dr all.toArray rs=true)(hQ: ∀c a w dst v,Q (.panic c) (Act.put a dst v) w→Q (.panic c) a w){QA:Act→SS→Prop}{K:Nu→Nat→Ak→AH→Prop}
  (hK: ∀ρ (a:Act) A ν n As,BO nt ρ a→Ca ν n A (fun ν'=>K ν' n ρ A)→QA a ⟨A,ν,n,As⟩): ∀(N:Nat) (pl:PT) (listed:Array Bool) (ρ:Ak) (a:Act) (A As:AH) (ν:Nu) (n:Nat),Eu imp all.toArray rs N pl listed=true→BO nt ρ a→OE ν→
   (∃h,St ν n A h)→Ca ν n A (fun ν'=>Cg P imp nt all pl As ν' n ρ A K)→Fx P .any all.toArray Q (Dt A0 h0 w0) Gf rs QA N listed a ⟨A,ν,n,As⟩:=by
 intro N
 induction N with
 | zero=>
  intro pl
  cases pl with
  |nil=>
   intro listed ρ a A As ν n hp hk _ _ f
   exact⟨by simpa[Eu]using hp,hK _ _ _ _ _ _ hk f⟩
  |one=>intro listed ρ a A As ν n hp;simp[Eu]at hp
  |two=>intro listed ρ a A As ν n hp;simp[Eu]at hp
 | succ N ih=>
  intro pl
  cases pl with
  |nil=>intro listed ρ a A As ν n hp;simp[Eu]at hp
  | two i mi p j mj q=>
   intro listed ρ a A As ν n hp hk hj hex f
   simp only[Eu,Bool.and_eq_true]at hp
   obtain⟨hp1,hp2,hp3⟩:=hp
   have e1:all.toArray[i]? =all[i]? :=by simp
   have e2:all.toArray[j]? =all[j]? :=by simp
   rw[e1,e2]at hp1
   cases ho:all[i]? with
   |none=>rw[ho]at hp1;cases hp1
   | some o=>
    cases hu:all[j]? with
    |none=>rw[ho,hu]at hp1;cases hp1
    | some u=>
     rw[ho,hu]at hp1
     simp only[Bool.and_eq_true,Option.isNone_iff_eq_none,Bool.not_eq_true']at hp1
     obtain⟨g1,g2,s1,s2,hr,m1,m2⟩:=hp1
     have hrd:Region.ready .any all.toArray listed=[i,j]:=by simpa using hr
     have f1:Ca ν n A fun ν'=>D6 P imp nt all As mi ν' n ρ A (fun As ν n ρ' A=>Cg P imp nt all p As ν n ρ' A K) (some o):=f.mono fun ν' h1=>by
      simp only[Cg,ho]at h1;exact h1.1
     have f2:Ca ν n A fun ν'=>D6 P imp nt all As mj ν' n ρ A (fun As ν n ρ' A=>Cg P imp nt all q As ν n ρ' A K) (some u):=f.mono fun ν' h1=>by
      simp only[Cg,hu]at h1;exact h1.2
     refine⟨fun h=>(by rw[hrd]at h;cases h),fun x hx=> ?_⟩
     rw[hrd]at hx
     rcases List.mem_cons.1 hx with rfl|hx
     ·exact kg hXQ ho g1 s1 (fun h=>by rw[if_pos h]at m1;exact m1) hk f1 (fun h1 h2 h3 h4=>ih _ _ _ _ _ _ _ _ hp2 h1 h2 h3 h4)
     ·obtain rfl:x=j:=by simpa using hx
      exact kg hXQ hu g2 s2 (fun h=>by rw[if_pos h]at m2;exact m2) hk f2 (fun h1 h2 h3 h4=>ih _ _ _ _ _ _ _ _ hp3 h1 h2 h3 h4)
  | one i m l=>
   intro listed ρ a A As ν n hp hk hj hex f
   obtain⟨hh,hst0⟩:=hex
   simp only[Eu,Bool.and_eq_true]at hp
   obtain⟨hp1,hp2⟩:=hp
   cases ho:all[i]? with
   |none=>have h1:=hst0.get f;simp only[Cg,ho,D6]at h1
   | some o=>
    have ho':all.toArray[i]? =some o:=by simpa using ho
    rw[ho']at hp1
    simp only at hp1
    have f1:Ca ν n A fun ν'=>D6 P imp nt all As m ν' n ρ A (fun As ν n ρ' A=>Cg P imp nt all l As ν n ρ' A K) (some o):=f.mono fun ν' h1=>by
     simp only[Cg,ho]at h1;exact h1
    -- what follows
    have rest: ∀{ρ':Ak} {a':Act} {A' As':AH} {ν':Nu} {n':Nat},BO nt ρ' a'→OE ν'→(∃h,St ν' n' A' h)→Ca ν' n' A' (fun ν''=>Cg P imp nt all l As' ν'' n' ρ' A' K)→Fx P .any all.toArray Q (Dt A0 h0 w0) Gf rs QA N (listed.setIfInBounds i true) a' ⟨A',ν',n',As'⟩:=
     fun h1 h2 h3 h4=>ih _ _ _ _ _ _ _ _ hp2 h1 h2 h3 h4
    have soft: ∀{v:Value} {fr:Bool},A8 imp o.op=true→(fr=true→Gx o.op=true)→(fr=false→Gx o.op=false)→FH P all.toArray (Dt A0 h0 w0) Gf fr ⟨A,ν,n,As⟩ o v a→Fx P .any all.toArray Q (Dt A0 h0 w0) Gf rs QA N (listed.setIfInBounds i true) (a.put o.dst v) ⟨A,ν,n,As⟩→Fx P .any all.toArray Q (Dt A0 h0 w0) Gf rs QA (N+1) listed a ⟨A,ν,n,As⟩:=by
     intro v fr hsf hf1 hf2 hso hnext
     rw[if_pos hsf]at hp1
     simp only[Bool.and_eq_true]at hp1
     refine LY (v:=v) Dt.grew Gf.refl Gf.trans ho' (Region.noSelect_spec hs) (fun c a w=>hQ c a w _ _) (fun j oj hoj hji hrj=> ?_) N listed a _ (Region.free_spec ho' hp1.2) (by simpa using hp1.1) hso hnext
     rcases ML hrs ho' hoj hji hrj with h|h
     ·cases fr with
      |true=>exact .inl rfl
      |false=>rw[hf2 rfl]at h;cases h
     ·exact .inr h
    -- an operation that is carried out
    have main:Region.wanted o (yielded all.toArray a.tmps)=true→Ca ν n A (fun ν'=>Hv P imp nt As m ν' n ρ A (fun As ν n ρ' A=>Cg P imp nt all l As ν n ρ' A K) (some o))→Fx P .any all.toArray Q (Dt A0 h0 w0) Gf rs QA (N+1) listed a ⟨A,ν,n,As⟩:=by
     intro hwt f2
     by_cases hsf:A8 imp o.op=true
     ·have f3:Ca ν n A fun ν'=>BF P nt o ρ As fun ρ'=>Cg P imp nt all l As ν' n ρ' A K:=f2.mono fun ν' h1=>by
       unfold Hv at h1;simp only[hsf,if_true]at h1;exact h1
      have hnext: ∀v,Ca ν n A (fun ν'=>Ac nt o.dst v ρ fun ρ'=>Cg P imp nt all l As ν' n ρ' A K)→Fx P .any all.toArray Q (Dt A0 h0 w0) Gf rs QA N (listed.setIfInBounds i true) (a.put o.dst v) ⟨A,ν,n,As⟩:=by
       intro v hput
       cases hd:o.dst with
       |none=>
        rw[hd]at hput
        exact rest hk hj ⟨hh,hst0⟩ hput
       |some d=>
        have h1:=hst0.get hput
        rw[hd]at h1 hput
        exact rest (hk.put h1.1 v) hj ⟨hh,hst0⟩ (hput.mono fun ν' h2=>h2.2)
      cases hfs:Gx o.op with
      |true=>
       obtain⟨v,hv,hq⟩:=D9 (Fe hfs (hst0.get f3))
       exact soft (fr:=true) hsf (fun _=>hfs) (fun h=>by cases h) (.inl ⟨hwt,fun s w _ hw=>hq (fun w'=>Grew w.heap w'.heap∧Ai w w') a hk (fun w1 ⟨q1,q2⟩=>⟨CQ.nil _,fun w2 q3 q4=>⟨q1.trans q3,q2.trans q4⟩⟩) w ⟨Grew.refl _,Ai.refl _⟩⟩) (hnext v (f3.mono fun ν' h1=>(hv _).1 (Fe hfs h1)))
      |false=>
       obtain⟨v,hv,hq⟩:=D9 (hst0.get f3)
       exact soft (fr:=false) hsf (fun h=>by cases h) (fun _=>hfs) (.inl ⟨hwt,fun s w hle hw=>hq (fun w'=>Grew w.heap w'.heap∧Ai w w') a hk (fun w1 ⟨q1,q2⟩=>⟨(hw.1.sat.sub ((hle rfl).trans' hw.2.2.2)).grew q1,fun w2 q3 q4=>⟨q1.trans q3,q2.trans q4⟩⟩) w ⟨Grew.refl _,Ai.refl _⟩⟩) (hnext v (f3.mono fun ν' h1=>(hv _).1 h1))
     ·rw[if_neg hsf]at hp1
      simp only[Bool.and_eq_true]at hp1
      obtain⟨hp1,hpm⟩:=hp1
      have hrd:Region.ready .any all.toArray listed=[i]:=by simpa using hp1
      have f3:Ca ν n A fun ν'=>BC P imp nt o ν' n ρ A fun ν n ρ' A'=>Ep As A' m fun As'=>Cg P imp nt all l As' ν n ρ' A' K:=f2.mono fun ν' h1=>by
       unfold Hv at h1;simp only[hsf]at h1;exact h1
      refine⟨fun h=>(by rw[hrd]at h;cases h),fun j hj'=> ?_⟩
      rw[hrd]at hj'
      have:j=i:=by simpa using hj'
      subst this
      intro w ⟨hst,hkp,hre,hsub⟩
      unfold wpOp
      simp only[ho']
      rw[if_pos hwt]
      refine .inl ?_
      have hw:=HA (X:=fun ch h'=>Gc imp.X A w.heap ch h') (fun _ _ p=>p) (K':=Dx (fun ν n ρ' A'=>Ep As A' m fun As'=>Cg P imp nt all l As' ν n ρ' A' K) A w.heap) (fun ρ' h' p=>p) hst f3
      refine Ff (w0:=w0) (fun ch h a w hx hn hwh hr=>by subst hwh;exact hXQ ch a w hn.1 (hx.from hkp) hr) hw hk hre fun ρ' a' w' hp hk' hre' _=> ?_
      obtain⟨ν1,n1,A1,st1,kp1,f4⟩:=hp
      unfold Ep at f4
      by_cases hm2:m=2
      ·simp only[hm2,if_true]at f4
       rw[if_pos hm2]at hpm
       exact⟨⟨A1,ν1,n1,A1⟩,⟨st1,hkp.trans kp1,hre',SubA.refl _⟩,fun h=>(by rw[hpm]at h;cases h),rest hk' st1.inj ⟨w'.heap,st1⟩ f4⟩
      ·simp only[hm2,if_false]at f4
       have hsub1:=(st1.get f4).1
       by_cases hm1:m=1
       ·simp only[hm1,if_true]at f4
        exact⟨⟨A1,ν1,n1,A1⟩,⟨st1,hkp.trans kp1,hre',SubA.refl _⟩,fun _=>hsub1,rest hk' st1.inj ⟨w'.heap,st1⟩ (f4.mono fun ν' h1=>h1.2)⟩
       ·simp only[hm1,if_false]at f4
        exact⟨⟨A1,ν1,n1,As⟩,⟨st1,hkp.trans kp1,hre',hsub1⟩,fun _=>SubA.refl _,rest hk' st1.inj ⟨w'.heap,st1⟩ (f4.mono fun ν' h1=>h1.2)⟩
    have skip:Region.wanted o (yielded all.toArray a.tmps)=false→Ca ν n A (fun ν'=>Ac nt o.dst undef ρ fun ρ'=>Cg P imp nt all l As ν' n ρ' A K)→Fx P .any all.toArray Q (Dt A0 h0 w0) Gf rs QA (N+1) listed a ⟨A,ν,n,As⟩:=by
     intro hwt hput
     have hnext:Fx P .any all.toArray Q (Dt A0 h0 w0) Gf rs QA N (listed.setIfInBounds i true) (a.put o.dst undef) ⟨A,ν,n,As⟩:=by
      cases hd:o.dst with
      |none=>
       rw[hd]at hput
       exact rest hk hj ⟨hh,hst0⟩ hput
      |some d=>
       have h1:=hst0.get hput
       rw[hd]at h1 hput
       exact rest (hk.put h1.1 undef) hj ⟨hh,hst0⟩ (hput.mono fun ν' h2=>h2.2)
     by_cases hsf:A8 imp o.op=true
     ·cases hfs:Gx o.op with
      |true=>exact soft (fr:=true) hsf (fun _=>hfs) (fun h=>by cases h) (.inr ⟨hwt,rfl⟩) hnext
      |false=>exact soft (fr:=false) hsf (fun h=>by cases h) (fun _=>hfs) (.inr ⟨hwt,rfl⟩) hnext
     ·rw[if_neg hsf]at hp1
      simp only[Bool.and_eq_true]at hp1
      have hrd:Region.ready .any all.toArray listed=[i]:=by simpa using hp1.1
      refine⟨fun h=>(by rw[hrd]at h;cases h),fun j hj'=> ?_⟩
      rw[hrd]at hj'
      have:j=i:=by simpa using hj'
      subst this
      intro w hw
      unfold wpOp
      simp only[ho']
      rw[if_neg (by rw[hwt];decide)]
      exact⟨_,hw,fun _=>Gf.refl _,hnext⟩
    cases hg:o.guard with
    |none=>
     refine main (by unfold Region.wanted;rw[hg]) (f1.mono fun ν' h1=> ?_)
     simp only[D6,hg]at h1
     exact h1
    | some g=>
     obtain⟨j,want⟩:=g
     have f4:Ca ν n A fun ν'=>AZ (Bq all j) fun s=>AZ (get ρ s) fun v=>eP want v (Hv P imp nt As m ν' n ρ A (fun As ν n ρ' A=>Cg P imp nt all l As ν n ρ' A K) (some o)) (Ac nt o.dst undef ρ fun ρ'=>Cg P imp nt all l As ν' n ρ' A K):=f1.mono fun ν' h1=>by
      simp only[D6,hg]at h1;exact h1
     obtain⟨s,h1,h0'⟩:=AB (hst0.get f4)
     obtain⟨v,h2,h0'⟩:=AB h0'
     have f5:=BL h2 (BL h1 f4)
     have hy:=hk.2.2 s v h2
     have dec:Region.wanted o (yielded all.toArray a.tmps)=(match v with| .bool b=>b==want|_=>false):=by
      unfold Region.wanted
      rw[hg]
      simp only[B9 h1,hy]
      cases v<;>first|rfl|(rename_i b;cases b<;>cases want<;>rfl)
     unfold eP at f5
     cases v with
     |bool b=>
      simp only at dec f5
      cases hb:(b==want)with
      |true=>exact main (by rw[dec,hb]) (f5.mono fun ν' h1=>h1.1 hb)
      |false=>exact skip (by rw[dec,hb]) (f5.mono fun ν' h1=>h1.2 hb)
     |_=>exact skip dec f5
end
theorem Av.tree[dd:DefD]{c:CxA}{id:Nat}{ops:Array Oper}{k:List It}{ρ:Ak}{A:AH}(rl:List Nat)(pl:PT)(As:AH)(hAs:SubA As A)(hm:c.P.follows .mixedOrders=true)(hs:Region.noSelect ops=true)(hrs:Dr ops (fun j=>rl.contains j)=true)(hpl:Eu c.imp ops (fun j=>rl.contains j) ops.size pl (Array.replicate ops.size false)=true)
  (hok:M5 c.P c.imp c.plans k=true) (hd: ∀ν,Bu ν A→Cg c.P c.imp c.n ops.toList pl As ν 0 ρ A fun ν n ρ' A=>Az c k ν n ρ' A): @Av dd c (.code (.region id ops true)::k) ρ A ():=by
 intro A0 h0 h hsat kp hf b a w hb hn hk hw
 subst hw
 refine .of_wp (?_:(Code.region id ops true).wp c.P (fun e a' w'=>match e with| .normal=>Ch c.P b (k.map It.item) a' w' (fun e w'=>(c.cx A0 h0).R e w'.heap∧Ai w w')| .panic ch=>a'.defers=DefD.ds∧((c.cx A0 h0).R (.panicked ch) w'.heap∧Ai w w')|_=>False) a w) ⟨c.fn,by rw[hb];exact hf⟩ (fun e a' w' hq=>hq)
 have st:=St.start hsat
 have f1:Ca (fun i=>w.heap.size+i) 0 A (fun ν'=>Cg c.P c.imp c.n ops.toList pl As ν' 0 ρ A fun ν n ρ' A=>Az c k ν n ρ' A):=Ca.fresh hd
 refine wp_region_any hm (E6 (Inv:=Dt A0 h0 w) (le:=Gf) (rs:=(fun j=>rl.contains j)) (QA:=fun a' s=> ∃ρ',BO c.n ρ' a'∧Ca s.ν s.n s.A fun ν'=>Az c k ν' s.n ρ' s.A) ?_ _ _ _ ⟨A,fun i=>w.heap.size+i,0,As⟩ _ ⟨st,kp,⟨rfl,rfl,rfl⟩,hAs⟩ ?_)
 ·rintro a' s w' ⟨ρ',hk',f⟩ ⟨h1,h2,h3,_⟩
  exact Cq (c.cx A0 h0) _ _ _ _ (Nat.le_refl _) (OQ c _ k ρ' s.A s.n s.ν w'.heap hok (Nat.le_refl _) h1 f A0 h0 h2) w hf b a' w' hb hn hk' rfl h3
 ·have:=P8 (P:=c.P) (imp:=c.imp) (nt:=c.n) (all:=ops.toList) (A0:=A0) (h0:=h0) (w0:=w) (rs:=(fun j=>rl.contains j)) (K:=fun ν n ρ' A=>Az c k ν n ρ' A)
   (Q:=fun e a' w'=>match e with| .normal=>Ch c.P b (k.map It.item) a' w' (fun e w'=>(c.cx A0 h0).R e w'.heap∧Ai w w')| .panic ch=>a'.defers=DefD.ds∧((c.cx A0 h0).R (.panicked ch) w'.heap∧Ai w w')|_=>False)
   (fun ch a' w' h1 h2 h3=>⟨h1,Jp h2,h3⟩) (by simpa using hs) (by simpa using hrs) (fun c' a' w' dst v hq=>⟨by have h1:=hq.1;cases dst<;>exact h1,hq.2⟩) (QA:=fun a' s=> ∃ρ',BO c.n ρ' a'∧Ca s.ν s.n s.A fun ν'=>Az c k ν' s.n ρ' s.A) (fun ρ' a' A' ν' n' As' hk' f=>⟨ρ',hk',f⟩)
   ops.size pl (Array.replicate ops.size false) ρ a A As (fun i=>w.heap.size+i) 0 (by simpa using hpl) hk st.inj ⟨w.heap,st⟩ f1
  simpa using this
section
variable (P:Program) (imp:Imp) (nt:Nat) (all:List Oper) (As:AH) (ν:Nu) (n:Nat) (ρ:Ak) (A:AH) (K:Nu→Nat→Ak→AH→Prop)
theorem db:Cg P imp nt all .nil As ν n ρ A K=K ν n ρ A:=rfl
theorem dc(i m:Nat)(p:PT):Cg P imp nt all (.one i m p) As ν n ρ A K=D6 P imp nt all As m ν n ρ A (fun As ν n ρ' A=>Cg P imp nt all p As ν n ρ' A K) all[i]? :=rfl
theorem de(i mi:Nat)(p:PT)(j mj:Nat)(q:PT):Cg P imp nt all (.two i mi p j mj q) As ν n ρ A K=(D6 P imp nt all As mi ν n ρ A (fun As ν n ρ' A=>Cg P imp nt all p As ν n ρ' A K) all[i]? ∧D6 P imp nt all As mj ν n ρ A (fun As ν n ρ' A=>Cg P imp nt all q As ν n ρ' A K) all[j]?):=rfl
end
end Go.Vm
namespace Go.Vm
section
variable {P:Program} {imp:Imp} {n id:Nat} {ops:List Oper} {ρ:Ak} {A:AH} {Q:Exit→Act→World→Prop} {a:Act} {w:World} {KK:Ak→AH→Prop}
theorem BE[dd:DefD](hk:BO n ρ a)(hs:CQ A w.heap)(h: ∀ν,Bu ν A→At P imp n ops 400 none ops ν 0 ρ A (fun _ _ ρ' A'=>KK ρ' A'))
  (hX: ∀ch a' w',Gc imp.X A w.heap ch w'.heap→BO n [] a'→Ai w w'→Q (.panic ch) a' w')
  (hK: ∀ρ' A' a' w',KK ρ' A'→BO n ρ' a'→CQ A' w'.heap→BN A w.heap A' w'.heap→Ai w w'→Q .normal a' w'):(Code.region id ops.toArray false).wp P Q a w:=by
 have h1:BK P n ops 400 none ops ρ w.heap (fun ρ' h'=> ∃A',KK ρ' A'∧CQ A' h'∧BN A w.heap A' h') (fun ch h'=>Gc imp.X A w.heap ch h'):=by
  refine Ln (K:=fun _ _ ρ' A'=>KK ρ' A') _ _ _ _ _ _ _ _ _ (fun ch h' p=>p) (fun ρ' h' p=> ?_) (St.start hs) (Ca.fresh h)
  obtain⟨ν1,n1,A1,st,kp,f⟩:=p
  exact⟨A1,st.get f,st.sat,kp⟩
 have h2:=JQ (all:=ops) (w0:=w) (Q:=Q) (fun ch h a' w' q1 q2 q3 q4=>hX ch a' w' (by rw[q3];exact q1) q2 q4) 400 none ops ρ _ a w [] h1 hk (Ai.refl w) trivial
  (fun ρ' a' w' ⟨A',k1,k2,k3⟩ k4 k5 _=>wpList_nil (hK ρ' A' a' w' k1 k4 k2 k3 k5))
 rw[List.append_nil]at h2
 exact wp_region_lit h2
theorem H8[dd:DefD](pl:List (Nat×Nat))(As:AH)(hAs:SubA As A)(hm:P.follows .mixedOrders=true)(hns:Region.noSelect ops.toArray=true)(hl:(pl.length==ops.length)=true)(hrs:Dr ops.toArray (H0 pl)=true)(hpl:G7 imp ops.toArray (H0 pl) pl (Array.replicate ops.length false)=true)
  (hk:BO n ρ a) (hs:CQ A w.heap) (h: ∀ν,Bu ν A→Cf P imp n ops pl As ν 0 ρ A (fun _ _ ρ' A'=>KK ρ' A'))
  (hX: ∀ch a' w',Gc imp.X A w.heap ch w'.heap→a'.defers=DefD.ds→Ai w w'→Q (.panic ch) a' w') (hQ: ∀c a w dst v,Q (.panic c) (Act.put a dst v) w→Q (.panic c) a w)
  (hK: ∀ρ' A' a' w',KK ρ' A'→BO n ρ' a'→CQ A' w'.heap→BN A w.heap A' w'.heap→Ai w w'→Q .normal a' w'):(Code.region id ops.toArray true).wp P Q a w:=by
 simp only[beq_iff_eq]at hl
 refine wp_region_any hm (E6 (Inv:=Dt A w.heap w) (le:=Gf) (rs:=H0 pl) (QA:=fun a' s=> ∃ρ',BO n ρ' a'∧Ca s.ν s.n s.A fun _=>KK ρ' s.A) ?_ _ _ _ ⟨A,fun i=>w.heap.size+i,0,As⟩ _ ⟨St.start hs,BN.refl _ _,⟨rfl,rfl,rfl⟩,hAs⟩ ?_)
 ·rintro a' s w' ⟨ρ',hk',f⟩ ⟨h1,h2,h3,_⟩
  exact hK ρ' s.A a' w' (h1.get f) hk' h1.sat h2 h3
 ·have:=Gt (P:=P) (imp:=imp) (nt:=n) (all:=ops) (A0:=A) (h0:=w.heap) (w0:=w) (rs:=H0 pl) (K:=fun _ _ ρ' A'=>KK ρ' A') (Q:=Q)
   (fun ch a' w' h1 h2 h3=>hX ch a' w' h2 h1 h3) (by simpa using hns) (by simpa using hrs) hQ (QA:=fun a' s=> ∃ρ',BO n ρ' a'∧Ca s.ν s.n s.A fun _=>KK ρ' s.A) (fun ρ' a' A' ν' n' As' hk' f=>⟨ρ',hk',f⟩)
   pl (Array.replicate ops.length false) ρ a A As (fun i=>w.heap.size+i) 0 (by simpa using hpl) hk (St.start hs).inj ⟨w.heap,St.start hs⟩ (Ca.fresh h)
  rw[hl]at this
  simpa using this
theorem GW[dd:DefD]{l:Array Oper}{g:FuncId}{fv:Operand}{xs:Array Operand}{ts:Array TypeId}{vs:List Value}{f:Value}{d:Nat}{ty:TypeId}{pos:String}{aft:Array Edge}{fs cs:Array Value}{X:List PanicEntry→AH→Prop}{K:Value→AH→Prop}
  (hk:BO n ρ a) (hs:CQ A w.heap) (hf:Aa ρ fv=some (.func (.func g) fs cs)) (hv:GD ρ xs.toList=some vs) (hcl:BR P g=true) (hd:d<n)
  (hc:AM P g (fs++vs.toArray++cs) A X K)
  (hX: ∀ch A' w',X ch A'→CQ A' w'.heap→BN A w.heap A' w'.heap→Ai w w'→Q (.panic ch) a w')
  (hK: ∀v A' a' w',K v A'→BO n ((d,some v)::ρ) a'→CQ A' w'.heap→BN A w.heap A' w'.heap→Ai w w'→Q .normal a' w'):
  wpList P l Q [⟨some d,.call ⟨.value fv,xs,ts⟩,ty,pos,aft,none⟩] a w:=by
 have hcc:CallsH P g (fs++vs.toArray++cs) w.heap (YT A w.heap X K):=by
  have:=hc w.heap hs
  unfold Di at this
  rwa [if_pos hcl]at this
 have hrun:(execOp a.eval ⟨some d,.call ⟨.value fv,xs,ts⟩,ty,pos,aft,none⟩).run P w=.ok (.enter g (fs++vs.toArray++cs)) w:=by
  simp only[execOp,resolve,AN hk hf,Deferred.ofValue,Sem.run_bind,Sem.run_pure,Result.andThen_ok,invoke,Cw hk hv]
  exact CF hcl
 unfold wpList
 rw[if_pos (by simp[Region.wanted])]
 refine .inl ?_
 unfold Oper.wp
 rw[hrun]
 simp only[Oper.upon]
 refine(hcc w rfl).mono fun e w' ⟨hR,hre⟩=> ?_
 rcases hR with⟨v,A',rfl,h1,h2,h3⟩|⟨ch,A',rfl,h1,h2,h3⟩
 ·exact hK v A' _ w' h3 (hk.put hd v) h1 h2 hre
 ·exact hX ch A' w' h3 h1 h2 hre
theorem BT[dd:DefD]{l:Array Oper}{o:Oper}{tl:List Oper}(hg:o.guard=none)(hk:BO n ρ a)(hs:CQ A w.heap)
  (h: ∀ν,Bu ν A→BC P imp n o ν 0 ρ A (fun _ _ ρ' A'=>KK ρ' A'))
  (hX: ∀ch w',Gc imp.X A w.heap ch w'.heap→Ai w w'→Q (.panic ch) a w')
  (hK: ∀ρ' A' a' w',KK ρ' A'→BO n ρ' a'→CQ A' w'.heap→BN A w.heap A' w'.heap→Ai w w'→wpList P l Q tl a' w'):wpList P l Q (o::tl) a w:=by
 have h1:Am P n o ρ w.heap (fun ρ' h'=> ∃A',KK ρ' A'∧CQ A' h'∧BN A w.heap A' h') (fun ch h'=>Gc imp.X A w.heap ch h'):=by
  refine HA (K:=fun _ _ ρ' A'=>KK ρ' A') (fun ch h' p=>p) (fun ρ' h' p=> ?_) (St.start hs) (Ca.fresh h)
  obtain⟨ν1,n1,A1,st,kp,f⟩:=p
  exact⟨A1,st.get f,st.sat,kp⟩
 unfold wpList
 rw[if_pos (by simp[Region.wanted,hg])]
 exact .inl (Jv (w0:=w) (fun ch h w' q1 q2 q3=>hX ch w' (by rw[q2];exact q1) q3) h1 hk (Ai.refl w) (fun ρ' a' w' ⟨A',k1,k2,k3⟩ k4 k5 _=>hK ρ' A' a' w' k1 k4 k2 k3 k5))
end
theorem Qk{n:Nat}{args:List Value}(ha:args.length≤n): @BO dd0 n (HO 0 args) {tmps:=args.toArray++Array.replicate (n - args.toArray.size) undef,defers:=[]}:=by
 refine⟨rfl,by simp;omega,fun t v ht=> ?_⟩
 obtain⟨j,h1,h2⟩:=Lb args 0 t v ht
 have hj:j<args.length:=by
  rcases Nat.lt_or_ge j args.length with h|h
  ·exact h
  ·rw[List.getElem?_eq_none h]at h2;cases h2
 have:t=j:=by omega
 subst this
 simp only[Array.getElem?_append]
 rw[if_pos (by simpa using hj)]
 simpa using h2
theorem EK{P:Program}{f:FuncId}{fn:Func}{c:Code}{args:List Value}{A:AH}{K:Value→AH→Prop}(hf:P.funcs[f]? =some fn)(hb:fn.body=some c)(hcl:BR P f=true){n:Nat}(hn:fn.ntmps=n)(ha:args.length≤n)
  (h: ∀(a:Act) (w:World),a.defers=[]→ @BO dd0 n (HO 0 args) a→CQ A w.heap→c.wp P (bodyPostD P fn fun e w'=>Gl A w.heap K e w'.heap∧Ai w w') a w):AK P f args.toArray A K:=by
 intro h0 hs
 unfold Di
 rw[if_pos hcl]
 intro w hw
 subst hw
 refine calls_of_wp_defers hf hb ?_
 rw[hn]
 exact h _ w rfl (Qk ha) hs
theorem BO.defers{n:Nat}{ρ:Ak}{a:Act}(d1 d2:DefD)(hk: @BO d1 n ρ a)(h:a.defers=d2.ds): @BO d2 n ρ a:=⟨h,hk.2⟩
end Go.Vm
namespace Go.Vm
section
variable (P:Program) (imp:Imp) (nt:Nat) (ν:Nu) (n:Nat) (ρ:Ak) (A:AH) (K:Nu→Nat→Ak→AH→Prop) (K1:Nu→Nat→Value→AH→Prop)
variable (dst:Option Nat) (ty:TypeId) (pos:String) (aft:Array Edge) (gd:Option (Nat×Bool))
theorem cO(xs:List Operand)(ts:Array TypeId):BC P imp nt ⟨dst,.call ⟨.builtin .unsafeSliceData,xs.toArray,ts⟩,ty,pos,aft,gd⟩ ν n ρ A K=AZ (GD ρ xs) fun vs=>JJ P (Builtin.unsafeSliceData_ ts ty vs.toArray) A ν n fun ν n u A=>Ac nt dst u ρ fun ρ'=>K ν n ρ' A:=rfl
theorem cP(xs:List Operand)(ts:Array TypeId):BC P imp nt ⟨dst,.call ⟨.builtin .unsafeString,xs.toArray,ts⟩,ty,pos,aft,gd⟩ ν n ρ A K=AZ (GD ρ xs) fun vs=>Dz P (Builtin.unsafeString_ ts ty vs.toArray) A ν n fun ν n u A=>Ac nt dst u ρ fun ρ'=>K ν n ρ' A:=rfl
theorem Js(xs:Array Operand)(ts:Array TypeId):A8 imp (.call ⟨.builtin .unsafeSliceData,xs,ts⟩)=false:=rfl
theorem Jt(xs:Array Operand)(ts:Array TypeId):A8 imp (.call ⟨.builtin .unsafeString,xs,ts⟩)=false:=rfl
theorem LC(s d t:TypeId)(x:Value):Hk P s d (some (.pointer t)) (some .unsafePointer) x A ν n K1=Dz P (convert s d x) A ν n K1:=rfl
theorem OO(s d t:TypeId)(x:Value):Hk P s d (some .unsafePointer) (some (.pointer t)) x A ν n K1=Dz P (convert s d x) A ν n K1:=rfl
end
theorem O4{P:Program}{ts:Array TypeId}{ty:TypeId}{A:AH}{a:Addr}{n c:Nat}(hc:c≠0):Ex P (Builtin.unsafeSliceData_ ts ty #[.slice (some a) n c]) A=some (.pointer (some a)):=
 Jn fun w _=>Lib.run_unsafeSliceData_row (P:=P) (w:=w) _ _ _ _ _ hc
theorem M8{P:Program}{ts:Array TypeId}{ty:TypeId}{A:AH}:Ex P (Builtin.unsafeSliceData_ ts ty #[.slice none 0 0]) A=some (.pointer none):=
 Jn fun w _=>Lib.run_unsafeSliceData_nil (P:=P) (w:=w) _ _ _ _
def Rm(l:List UInt8):List Value:=l.map fun c=>.int .u8 (c.toNat:Int)
theorem e7(l:List UInt8):(Rm l).length=l.length:=by simp[Rm]
theorem T5(a b:List UInt8):Rm (a++b)=Rm a++Rm b:=by simp[Rm]
theorem bj{P:Program}{pt it ty:TypeId}{A:AH}{K:Value→AH→Prop}(hK:K (.string ⟨#[]⟩) A):Fv P (Builtin.unsafeString_ #[pt,it] ty #[.pointer none,.int .i64 0]) A K:=fun h hA w hw=>
 ⟨_,w,Lib.run_unsafeString_none (P:=P) (w:=w) pt it ty none,⟨rfl,rfl,rfl⟩,A,by rw[hw];exact hA,by rw[hw];exact BN.refl _ _,hK⟩
theorem Sd(h:AL)(g:Nat)(f:Obj→Obj)(o:Obj)(hg:h[g]? =some o):h.modify g f=h.setIfInBounds g (f o):=by
 apply Array.ext_getElem?
 intro i
 rw[Array.getElem?_modify,Array.getElem?_setIfInBounds]
 split
 ·rename_i e
  subst e
  rw[hg,if_pos (Array.getElem?_eq_some_iff.1 hg).1]
  rfl
 ·rfl
theorem jX{P:Program}{pt it ty e:TypeId}{A:AH}{K:Value→AH→Prop}{g:Nat}{cur:Array Value}{l:List UInt8}(hp:P.underlying pt=some (.pointer e))(hc:P.cellsOf e=1)(hg:AA A g=some (.cells cur e))(h0:l≠[])
  (hr:cur.toList.take l.length=Rm l) (h63:l.length≤9223372036854775807) (hK:K (.string ⟨l.toArray⟩) (Dw A g (.cells cur e (0,l.length)))):Fv P (Builtin.unsafeString_ #[pt,it] ty #[.pointer (some ⟨g,0,none⟩),.int .i64 (l.length:Int)]) A K:=by
 intro h hA w hw
 subst hw
 have hgw:=hA _ _ hg
 have hn:l.length≤cur.size:=by
  have:=congrArg List.length hr
  have h2:cur.toList.length=cur.size:=by simp
  rw[e7,List.length_take]at this
  omega
 have hrun:=Lib.run_unsafeString_row (P:=P) (w:=w) pt it ty e hp hc g cur.size (by simp[World.shape?,hgw]) l h0 hn h63 (fun j x hx=>by
  rw[Eb]
  simp only[World.cell?,hgw]
  have hj:=(List.getElem?_eq_some_iff.1 hx).1
  have h1:(cur.toList.take l.length)[j]? =some (.int .u8 x.toNat):=by rw[hr];simp[Rm,hx]
  rw[List.getElem?_take,if_pos hj]at h1
  simpa using h1)
 have hl:l.length≠0:=fun e=>h0 (List.eq_nil_of_length_eq_zero e)
 have hh:(w.freeze ⟨g,0,none⟩ l.length).heap=w.heap.setIfInBounds g (.cells cur e (0,l.length)):=by
  unfold World.freeze
  rw[if_neg hl]
  simp only
  rw[Sd _ _ _ _ hgw]
  simp
 have ps:=O2 (u:=.cells cur e (0,l.length)) hA hg
 refine⟨_,_,hrun, ?_,Dw A g (.cells cur e (0,l.length)),by rw[hh];exact ps.1,by rw[hh];exact ps.2,hK⟩
 unfold World.freeze
 rw[if_neg hl]
 exact⟨rfl,rfl,rfl⟩
theorem nT{P:Program}{src dst t e:TypeId}{j:TypeInfo}{A:AH}{K:Value→AH→Prop}{b:Nat}{cs:Array Value}{fr:Nat×Nat}(hs:P.underlying src=some (.pointer t))(hd:P.underlying dst=some .unsafePointer)(ht:P.info? t=some j)(hj:j.size≠0)
  (hb:AA A b=some (.cells cs e fr)) (hc:0<cs.size) (hK:K (.pointer (some ⟨b,0,none⟩)) A):Fv P (convert src dst (.pointer (some ⟨b,0,none⟩))) A K:=fun h hA w hw=>by
 subst hw
 have hbw:=hA _ _ hb
 exact⟨_,w,Lib.run_to_unsafe (w:=w) (e:=e) (cells:=cs.size) ⟨b,0,none⟩ hs hd ht hj (by simp[World.shape?,hbw]) hc,⟨rfl,rfl,rfl⟩,A,hA,BN.refl _ _,hK⟩
theorem bh{P:Program}{src dst u e:TypeId}{j:TypeInfo}{A:AH}{K:Value→AH→Prop}{b:Nat}{cs:Array Value}{fr:Nat×Nat}(hs:P.underlying src=some .unsafePointer)(hd:P.underlying dst=some (.pointer u))(hu:P.info? u=some j)
  (hb:AA A b=some (.cells cs e fr)) (hl:liesAt P P.depth e (cs.size / P.cellsOf e) 0 u 1=true) (hK:K (.pointer (some ⟨b,0,none⟩)) A):Fv P (convert src dst (.pointer (some ⟨b,0,none⟩))) A K:=fun h hA w hw=>by
 subst hw
 have hbw:=hA _ _ hb
 exact⟨_,w,Lib.run_from_unsafe (w:=w) (e:=e) (cells:=cs.size) ⟨b,0,none⟩ hs hd hu (by simp[World.shape?,hbw]) hl,⟨rfl,rfl,rfl⟩,A,hA,BN.refl _ _,hK⟩
end Go.Vm
namespace Go.Vm
theorem aA(w:World)(n:Nat)(e:TypeId):n≤grownCap w n 0 e:=grownCap_ge w n 0 e
theorem bg{P:Program}{src dst e:TypeId}{A:AH}{s:ByteArray}{K:Value→AH→Prop}(hs:P.underlying src=some .string)(hd:P.underlying dst=some (.slice e))(he:P.underlying e=some (.int .u8))
  (hK: ∀(g cap:Nat) (cs:Array Value) (fr:Nat×Nat),AA A g=none→s.size≤cap→cs.size=cap→fr.1=cs.size→(∀(j:Nat) (c:UInt8),s.toList[j]? =some c→cs[j]? =some (.int .u8 (c.toNat:Int)))→K (.slice (some ⟨g,0,none⟩) s.size cap) ((g,.cells cs e fr)::A)):
  Fv P (convert src dst (.string s)) A K:=by
 intro h hA w hw
 subst hw
 have hg:=aA w s.size e
 have hsz:(bytesRow s (grownCap w s.size 0 e)).size=grownCap w s.size 0 e:=by
  simp only[bytesRow,Array.size_append,Array.size_map,Array.size_replicate]
  have:s.data.size=s.size:=rfl
  omega
 refine⟨_,_,run_bytes_of_string w src dst e s hs hd he,⟨rfl,rfl,rfl⟩,_,hA.push,BN.push, ?_⟩
 refine hK _ _ _ _ (hA.none_of_size (Nat.le_refl _)) hg hsz rfl fun j c hj=> ?_
 rw[ByteArray.toList_eq]at hj
 have hj':s.data[j]? =some c:=by rw[←Array.getElem?_toList];exact hj
 obtain⟨h1,h2⟩:=Array.getElem?_eq_some_iff.1 hj'
 unfold bytesRow
 rw[Array.getElem?_append_left (by simpa using h1),Array.getElem?_map,hj']
 rfl
theorem XS{P:Program}{src dst e e':TypeId}{A:AH}{g cap:Nat}{cs:Array Value}{fr:Nat×Nat}{l:List UInt8}(hs:P.underlying src=some (.slice e))(he:P.underlying e=some (.int .u8))(hd:P.underlying dst=some .string)
  (hb:AA A g=some (.cells cs e' fr)) (hc: ∀(j:Nat) (c:UInt8),l[j]? =some c→cs[j]? =some (.int .u8 (c.toNat:Int))):Ex P (convert src dst (.slice (some ⟨g,0,none⟩) l.length cap)) A=some (.string ⟨l.toArray⟩):=
 Jn fun w hA=>run_convert_bytes_back w src dst e ⟨g,0,none⟩ cap l hs he hd fun j hj=>by
  have h1:=hA g _ hb
  have h2:=hc j l[j] (List.getElem?_eq_getElem hj)
  have ha:Addr.add ⟨g,0,none⟩ j=⟨g,j,none⟩:=by simp[Addr.add];exact fun e=>e.symm
  rw[ha]
  simp[World.cell?,h1,h2]
end Go.Vm
namespace Go.Vm
theorem Pj{P:Program}{t u ty e:TypeId}{A B:AH}{K:Value→AH→Prop}{n:Nat}{v:Value}{xs:List Value}{s:ByteArray}
  (hs:MW P t=some (e,1,1)) (hu:P.underlying u=some .string) (hz:JA P e=some (.int .u8 0)) (h0:0<s.size)
  (hown:Ea e 1 v B n xs) (hB:SubA B A) (h63:n+s.size≤maxLen) (hbytes:n+s.size≤140737488355328)
  (hK: ∀v' B',Ea e 1 v' B' (n+s.size) (xs++Lib.strCells s)→(∀b,AA B' b≠none→AA B b≠none∨AA A b=none)→K v' (B'++A)):
  Fv P (Builtin.append_ #[t,u] ty #[v,.string s]) A K:=by
 intro h hA w hw
 subst hw
 obtain⟨ht,i,hi,e1,e2⟩:=EC hs
 have hz':i.zero=some (.int .u8 0):=by unfold JA at hz;rw[hi]at hz;exact hz
 simp only at e1 e2
 have hsz:(Value.int .u8 0).cells.size=1:=rfl
 have hl:(Lib.strCells s).length=s.size:=Lib.strCells_length s
 have h1:=Lib.strCells_oneCell s
 generalize hm:s.size=m at*
 generalize hnw:Lib.strCells s=news at*
 have hlen:(xs++news).length=(n+m)*1:=by rw[List.length_append,hown.1,hl];omega
 have h63':n+m≤9223372036854775807:=by simp only[maxLen]at h63;omega
 have fresh: ∀(cap:Nat) (old:Nat),cap=grownCap w (n+m) old e→Ea e 1 (.slice (some ⟨w.heap.size,0,none⟩) (n+m) cap) [(w.heap.size,.cells (xs.toArray++news.toArray++Builtin.zeroCells (Value.int .u8 0).cells (cap - (n+m))) e)] (n+m) (xs++news):=by
  intro cap old hc
  have hge:=grownCap_ge w (n+m) old e
  have hcm:=grownCap_le_maxLen w (n+m) old e h63
  rw[←hc]at hge hcm
  refine⟨hlen,.inr ⟨_,cap,_,rfl,rfl,hge,hcm, ?_, ?_⟩⟩
  ·simp only[Array.size_append,List.size_toArray,size_zeroCells,hsz,hown.1,hl]
   omega
  ·simp only[Array.toList_append,List.append_assoc]
   rw[←List.append_assoc,←hlen]
   exact List.take_left
 have grew: ∀o:Obj,CQ ((w.heap.size,o)::A) (w.heap.push o)∧BN A w.heap ((w.heap.size,o)::A) (w.heap.push o):=fun o=>⟨hA.push,BN.push⟩
 have newb: ∀(o:Obj) (b:Nat),AA [(w.heap.size,o)] b≠none→AA B b≠none∨AA A b=none:=by
  intro o b hb
  simp only[AA]at hb
  split at hb
  ·rename_i e;subst e;exact .inr (hA.none_of_size (Nat.le_refl _))
  ·exact absurd rfl hb
 obtain⟨hxl,hv⟩:=hown
 rcases hv with⟨rfl,rfl,rfl⟩|⟨gb,cap,cur,rfl,rfl,hnc,hcm,hcs,htake⟩
 ·have hx:xs=[]:=List.eq_nil_of_length_eq_zero (by simpa using hxl)
  subst hx
  have hr:=run_append_nil_string (P:=P) w t u ty e i _ ht hu hi hz' s (by omega) (by omega) (by rw[hm,e2];omega)
  have hgr:=fresh (grownCap w (0+m) 0 e) 0 rfl
  have hst:s.data.map (fun b=>Value.int .u8 (b.toNat:Int))=news.toArray:=by
   rw[←hnw]
   apply Array.ext'
   simp[Lib.strCells]
  rw[hst,hm]at hr
  simp only[Nat.zero_add,List.nil_append,Array.empty_append]at hgr hr
  refine⟨_,_,hr,⟨rfl,rfl,rfl⟩,_,(grew _).1,(grew _).2, ?_⟩
  have:=hK _ _ (by simpa using hgr) (newb _)
  exact this
 ·have hgA:AA A gb=some (.cells cur e):=hB gb _ (by simp[AA])
  have hgb:=hA gb _ hgA
  by_cases hroom:n+m≤cap
  ·have hfit:n+m≤cur.size:=by rw[hcs];omega
   have hr:=Lib.run_append_room_string (P:=P) w t u ty e i ht hu hi e1 gb n cap cur hgb s (by rw[hm];exact hroom) (by rw[hm];exact hfit)
   rw[hnw,hm]at hr
   refine⟨_,_,hr,⟨rfl,rfl,rfl⟩,[(gb,.cells (cur.toList.take n++news++cur.toList.drop (n+m)).toArray e)]++A,fun b o hl2=> ?_,⟨by simp,fun b hb hl2=> ?_⟩,hK _ _ ⟨hlen,.inr ⟨gb,cap,_,rfl,rfl,hroom,hcm, ?_, ?_⟩⟩ (fun b hb=> ?_)⟩
   ·simp only[List.cons_append,List.nil_append,AA]at hl2
    split at hl2
    ·rename_i e1
     subst e1
     rw[←hl2]
     exact setRow_heap w gb cur _ e _ hgb
    ·rename_i e1
     rw[setRow_other w gb b _ (fun h=>e1 h.symm)]
     exact hA b o hl2
   ·have hne:b≠gb:=fun h=>by rw[h,hgA]at hl2;cases hl2
    refine⟨setRow_other w gb b _ hne, ?_⟩
    simp only[List.cons_append,List.nil_append,AA]
    rw[if_neg (fun h=>hne h.symm),hl2]
   ·simp only[List.size_toArray,List.length_append,List.length_take,List.length_drop,Array.length_toList]
    omega
   ·simp only[Nat.mul_one]at htake hlen⊢
    rw[htake,←hlen]
    exact List.take_left
   ·simp only[AA]at hb⊢
    split at hb
    ·left;simp[*]
    ·exact absurd rfl hb
  ·have holds: ∀j u,xs[j]? =some u→w.cell? ((⟨gb,0,none⟩:Addr).add j)=some u:=by
    intro j u hj
    rw[Eb]
    simp only[World.cell?,hgb]
    rw[←htake]at hj
    rw[List.getElem?_take]at hj
    split at hj
    ·simpa using hj
    ·cases hj
   have hr:=Lib.run_append_grow_string (P:=P) w t u ty e i _ ht hu hi hz' ⟨gb,0,none⟩ n cap xs (by rw[e1];exact hxl) holds s (by rw[hm];omega) (by rw[hm];omega) (growslice_fits (by rw[hm];omega) (by rw[hm,e2];omega))
   rw[hnw,hm]at hr
   refine⟨_,_,hr,⟨rfl,rfl,rfl⟩,_,(grew _).1,(grew _).2, ?_⟩
   exact hK _ _ (fresh _ cap rfl) (newb _)
end Go.Vm
namespace Go.Vm
mutual
def kV(N:Nat):Sh→List Value→Prop
 | .int k,cs=> ∃n,cs=[.int k n]∧(Lit.int k n).wf=true
 | .bool,cs=> ∃b,cs=[.bool b]
 | .str,cs=> ∃s:ByteArray,cs=[.string s]∧s.size≤N
 | .st n l,cs=>cs.length=n∧Rf N l cs
 | .sl _ _,_=>True
def Rf(N:Nat):List (Nat×Nat×Sh)→List Value→Prop
 | [],_=>True
 |(o,n,s)::l,cs=>kV N s ((cs.drop o).take n)∧Rf N l cs
end
section
variable {H:Type} {enc:TypeId×Value→H} {P:Program} {w:World} {base:Nat} {sp:Nat→Bool} {held:Bool} {N:Nat}
theorem Jy: ∀(ts:List TypeId) (ds:List (DataW H)) (i:Nat) (t:TypeId) (d:DataW H),ts[i]? =some t→ds[i]? =some d→ ∀n∈d.weights P t,n∈DataW.weightsEach P ts ds
 | [],_,_,_,_,h,_=>by simp at h
 |_::_,[],_,_,_,_,h=>by simp at h
 |t::ts,d::ds,0,_,_,h1,h2=>by
  simp at h1 h2
  subst h1 h2
  intro n hn
  simp[DataW.weightsEach,hn]
 |t::ts,d::ds,i+1,_,_,h1,h2=>by
  intro n hn
  have:=Jy ts ds i _ _ (by simpa using h1) (by simpa using h2) n hn
  simp[DataW.weightsEach,this]
mutual
theorem Zs(s:Sh)(t:TypeId)(fuel:Nat)(cs:List Value)(x:DataW H×List MemPlace)(hs:Jr P s t=true)(h:DataW.trod enc P w base sp held fuel t cs=some x)(hw: ∀n∈x.1.weights P t,n≤N):kV N s cs:=by
 cases s with
 | int k=>
  simp only[Jr]at hs
  split at hs
  ·rename_i k' ht
   have:k'=k:=by simpa using hs
   subst this
   obtain⟨n,h1,_,h2⟩:=DataW.trod_int ht h
   exact⟨n,h1,h2⟩
  ·cases hs
 | bool=>
  simp only[Jr]at hs
  split at hs
  ·rename_i ht
   obtain⟨b,h1,_⟩:=DataW.trod_bool ht h
   exact⟨b,h1⟩
  ·cases hs
 | str=>
  simp only[Jr]at hs
  split at hs
  ·rename_i ht
   obtain⟨b,h1,h3,h2⟩:=DataW.trod_string ht h
   subst h3
   refine⟨b,h1,hw _ ?_⟩
   rw[DataW.weights,List.mem_singleton,Array.length_toList]
   rfl
  ·cases hs
 | st n l=>
  simp only[Jr]at hs
  split at hs
  ·rename_i fs ht
   simp only[Bool.and_eq_true,decide_eq_true_eq]at hs
   obtain⟨xs,m,rfl,hx,h1,h2,h3⟩:=DataW.trod_struct ht h
   subst hx
   refine⟨h1.trans hs.1,Nc l fs.toList m cs hs.2 fun f hf=> ?_⟩
   obtain⟨i,hi⟩:=List.getElem?_of_mem hf
   have hi':fs[i]? =some f:=by simpa using hi
   have:=h3 i f hi'
   have hlt:i<xs.length:=by rw[h2];exact(Array.getElem?_eq_some_iff.1 hi').1
   refine⟨xs[i],by rw[this,List.getElem?_eq_getElem hlt],fun n hn=>hw n ?_⟩
   simp only[DataW.weights,ht]
   exact Jy _ _ i f.type _ (by simp[hi']) (by simp[List.getElem?_eq_getElem hlt]) n hn
  ·cases hs
 |sl n s=>trivial
theorem Nc(l:List (Nat×Nat×Sh))(fs:List Field)(m:Nat)(cs:List Value)(hs:Kn P l fs=true)
  (h: ∀f∈fs,∃x,DataW.trod enc P w base sp held m f.type ((cs.drop f.offset).take (P.cellsOf f.type))=some x∧ ∀n∈x.1.weights P f.type,n≤N):Rf N l cs:=by
 cases l with
 |nil=>trivial
 | cons p l=>
  obtain⟨o,n,s⟩:=p
  cases fs with
  |nil=>simp[Kn]at hs
  |cons f fs=>
   simp only[Kn,Bool.and_eq_true,decide_eq_true_eq]at hs
   obtain⟨rfl,rfl,h1,h2⟩:=hs
   obtain⟨x,hx,hw⟩:=h f (List.mem_cons_self ..)
   exact⟨Zs s f.type m _ x h1 hx hw,Nc l fs m cs h2 fun g hg=>h g (List.mem_cons_of_mem _ hg)⟩
end
end
end Go.Vm
