/-
Regions that draw their order, along a tree: at a place where two acting operations may come next, both ways are walked.
Conditions: none. Generic: it speaks of no program.
-/
import Derived.Test.YtfphceknmgadgaaGreatDoorVmAR
set_option linter.unusedSimpArgs false
set_option linter.unusedVariables false
namespace Go.Vm
set_option maxRecDepth 20000
inductive PT where
 |nil
 |one (i m:Nat) (p:PT)
 |two (i mi:Nat) (p:PT) (j mj:Nat) (q:PT)
def E1(imp:Imp)(ops:Array Oper)(rs:Nat→Bool):Nat→PT→Array Bool→Bool
 |0,.nil,listed=>(Region.ready .any ops listed).isEmpty
 |N+1,.one i m p,listed=>(match ops[i]? with
  |some o=>if Bt imp o.op then(Region.ready .any ops listed).contains i&&Region.free .any ops listed i else Region.ready .any ops listed==[i]&&(if m=2 then rs i else true)
  |none=>false)&&E1 imp ops rs N p (listed.setIfInBounds i true)
 |N+1,.two i mi p j mj q,listed=>(match ops[i]?,ops[j]? with
  |some o,some u=>(o.guard.isNone&&(u.guard.isNone&&((!Bt imp o.op)&&((!Bt imp u.op)&&(Region.ready .any ops listed==[i,j]&&((if mi=2 then rs i else true)&&(if mj=2 then rs j else true)))))))
  |_,_=>false)&&(E1 imp ops rs N p (listed.setIfInBounds i true)&&E1 imp ops rs N q (listed.setIfInBounds j true))
 |_,_,_=>false
noncomputable def DL(P:Program)(imp:Imp)(nt:Nat)(all:List Oper):PT→AH→Nu→Nat→Ba→AH→(Nu→Nat→Ba→AH→Prop)→Prop
 | .nil,_,ν,n,ρ,A,K=>K ν n ρ A
 | .one i m p,As,ν,n,ρ,A,K=>EF P imp nt all As m ν n ρ A (fun As ν n ρ' A=>DL P imp nt all p As ν n ρ' A K) all[i]?
 | .two i mi p j mj q,As,ν,n,ρ,A,K=>EF P imp nt all As mi ν n ρ A (fun As ν n ρ' A=>DL P imp nt all p As ν n ρ' A K) all[i]? ∧EF P imp nt all As mj ν n ρ A (fun As ν n ρ' A=>DL P imp nt all q As ν n ρ' A K) all[j]?
section
variable {P:Program} {imp:Imp} {nt:Nat} {all:List Oper} {Q:Exit→Act→World→Prop} {A0:AH} {h0:AY} {w0:World} {rs:Nat→Bool} {X:List PanicEntry→AY→Prop}
theorem kg[dd:DefD](hXQ: ∀ch a w,a.defers=DefD.ds→GG imp.X A0 h0 ch w.heap→BV w0 w→Q (.panic ch) a w){i m:Nat}{o:Oper}(ho:all[i]? =some o)(hg:o.guard=none)(hsf:Bt imp o.op=false)(hpm:m=2→rs i=true){G:AH→Nu→Nat→Ba→AH→Prop}{R:Act→SS→Prop}{ρ:Ba}{a:Act}{A As:AH}{ν:Nu}{n:Nat}
  (hk:CV nt ρ a) (f:DK ν n A fun ν'=>EF P imp nt all As m ν' n ρ A G (some o)) (rest: ∀{ρ':Ba} {a':Act} {A' As':AH} {ν':Nu} {n':Nat},CV nt ρ' a'→Pp ν'→(∃h,St ν' n' A' h)→DK ν' n' A' (fun ν''=>G As' ν'' n' ρ' A')→R a' ⟨A',ν',n',As'⟩):
  aL P Q (EB A0 h0 w0) GH rs all.toArray i a ⟨A,ν,n,As⟩ R:=by
 have ho':all.toArray[i]? =some o:=by simpa using ho
 have f3:DK ν n A fun ν'=>Bz P imp nt o ν' n ρ A fun ν n ρ' A'=>En As A' m fun As'=>G As' ν n ρ' A':=f.mono fun ν' h1=>by
  unfold EF at h1;simp only[hg]at h1
  unfold HP at h1;simp only[hsf]at h1;exact h1
 intro w ⟨hst,hkp,hre,hsub⟩
 unfold wpOp
 simp only[ho']
 rw[if_pos (by unfold Region.wanted;rw[hg])]
 refine .inl ?_
 have hw:=GN (X:=fun ch h'=>GG imp.X A w.heap ch h') (fun _ _ p=>p) (K':=ED (fun ν n ρ' A'=>En As A' m fun As'=>G As' ν n ρ' A') A w.heap) (fun ρ' h' p=>p) hst f3
 refine FQ (w0:=w0) (fun ch h a w hx hn hwh hr=>by subst hwh;exact hXQ ch a w hn.1 (hx.from hkp) hr) hw hk hre fun ρ' a' w' hp hk' hre' _=> ?_
 obtain⟨ν1,n1,A1,st1,kp1,f4⟩:=hp
 unfold En at f4
 by_cases hm2:m=2
 ·simp only[hm2,if_true]at f4
  exact⟨⟨A1,ν1,n1,A1⟩,⟨st1,hkp.trans kp1,hre',SubA.refl _⟩,fun h=>(by rw[hpm hm2]at h;cases h),rest hk' st1.inj ⟨w'.heap,st1⟩ f4⟩
 ·simp only[hm2,if_false]at f4
  have hsub1:=(st1.get f4).1
  by_cases hm1:m=1
  ·simp only[hm1,if_true]at f4
   exact⟨⟨A1,ν1,n1,A1⟩,⟨st1,hkp.trans kp1,hre',SubA.refl _⟩,fun _=>hsub1,rest hk' st1.inj ⟨w'.heap,st1⟩ (f4.mono fun ν' h1=>h1.2)⟩
  ·simp only[hm1,if_false]at f4
   exact⟨⟨A1,ν1,n1,As⟩,⟨st1,hkp.trans kp1,hre',hsub1⟩,fun _=>SubA.refl _,rest hk' st1.inj ⟨w'.heap,st1⟩ (f4.mono fun ν' h1=>h1.2)⟩
theorem RT[dd:DefD](hXQ: ∀ch a w,a.defers=DefD.ds→GG imp.X A0 h0 ch w.heap→BV w0 w→Q (.panic ch) a w)(hs:Region.noSelect all.toArray=true)(hrs:D6 all.toArray rs=true)(hQ: ∀c a w dst v,Q (.panic c) (Act.put a dst v) w→Q (.panic c) a w){QA:Act→SS→Prop}{K:Nu→Nat→Ba→AH→Prop}
  (hK: ∀ρ (a:Act) A ν n As,CV nt ρ a→DK ν n A (fun ν'=>K ν' n ρ A)→QA a ⟨A,ν,n,As⟩): ∀(N:Nat) (pl:PT) (listed:Array Bool) (ρ:Ba) (a:Act) (A As:AH) (ν:Nu) (n:Nat),E1 imp all.toArray rs N pl listed=true→CV nt ρ a→Pp ν→
   (∃h,St ν n A h)→DK ν n A (fun ν'=>DL P imp nt all pl As ν' n ρ A K)→Fg P .any all.toArray Q (EB A0 h0 w0) GH rs QA N listed a ⟨A,ν,n,As⟩:=by
 intro N
 induction N with
 | zero=>
  intro pl
  cases pl with
  |nil=>
   intro listed ρ a A As ν n hp hk _ _ f
   exact⟨by simpa[E1]using hp,hK _ _ _ _ _ _ hk f⟩
  |one=>intro listed ρ a A As ν n hp;simp[E1]at hp
  |two=>intro listed ρ a A As ν n hp;simp[E1]at hp
 | succ N ih=>
  intro pl
  cases pl with
  |nil=>intro listed ρ a A As ν n hp;simp[E1]at hp
  | two i mi p j mj q=>
   intro listed ρ a A As ν n hp hk hj hex f
   simp only[E1,Bool.and_eq_true]at hp
   obtain⟨hp1,hp2,hp3⟩:=hp
   have e1:all.toArray[i]? =all[i]? :=by simp
   have e2:all.toArray[j]? =all[j]? :=by simp
   rw[e1,e2]at hp1
   cases ho:all[i]? with
   |none=>rw[ho]at hp1;cases hp1
   | some o=>
    cases hu:all[j]? with
    |none=>rw[ho,hu]at hp1;cases hp1
    | some u=>
     rw[ho,hu]at hp1
     simp only[Bool.and_eq_true,Option.isNone_iff_eq_none,Bool.not_eq_true']at hp1
     obtain⟨g1,g2,s1,s2,hr,m1,m2⟩:=hp1
     have hrd:Region.ready .any all.toArray listed=[i,j]:=by simpa using hr
     have f1:DK ν n A fun ν'=>EF P imp nt all As mi ν' n ρ A (fun As ν n ρ' A=>DL P imp nt all p As ν n ρ' A K) (some o):=f.mono fun ν' h1=>by
      simp only[DL,ho]at h1;exact h1.1
     have f2:DK ν n A fun ν'=>EF P imp nt all As mj ν' n ρ A (fun As ν n ρ' A=>DL P imp nt all q As ν n ρ' A K) (some u):=f.mono fun ν' h1=>by
      simp only[DL,hu]at h1;exact h1.2
     refine⟨fun h=>(by rw[hrd]at h;cases h),fun x hx=> ?_⟩
     rw[hrd]at hx
     rcases List.mem_cons.1 hx with rfl|hx
     ·exact kg hXQ ho g1 s1 (fun h=>by rw[if_pos h]at m1;exact m1) hk f1 (fun h1 h2 h3 h4=>ih _ _ _ _ _ _ _ _ hp2 h1 h2 h3 h4)
     ·obtain rfl:x=j:=by simpa using hx
      exact kg hXQ hu g2 s2 (fun h=>by rw[if_pos h]at m2;exact m2) hk f2 (fun h1 h2 h3 h4=>ih _ _ _ _ _ _ _ _ hp3 h1 h2 h3 h4)
  | one i m l=>
   intro listed ρ a A As ν n hp hk hj hex f
   obtain⟨hh,hst0⟩:=hex
   simp only[E1,Bool.and_eq_true]at hp
   obtain⟨hp1,hp2⟩:=hp
   cases ho:all[i]? with
   |none=>have h1:=hst0.get f;simp only[DL,ho,EF]at h1
   | some o=>
    have ho':all.toArray[i]? =some o:=by simpa using ho
    rw[ho']at hp1
    simp only at hp1
    have f1:DK ν n A fun ν'=>EF P imp nt all As m ν' n ρ A (fun As ν n ρ' A=>DL P imp nt all l As ν n ρ' A K) (some o):=f.mono fun ν' h1=>by
     simp only[DL,ho]at h1;exact h1
    -- what follows
    have rest: ∀{ρ':Ba} {a':Act} {A' As':AH} {ν':Nu} {n':Nat},CV nt ρ' a'→Pp ν'→(∃h,St ν' n' A' h)→DK ν' n' A' (fun ν''=>DL P imp nt all l As' ν'' n' ρ' A' K)→Fg P .any all.toArray Q (EB A0 h0 w0) GH rs QA N (listed.setIfInBounds i true) a' ⟨A',ν',n',As'⟩:=
     fun h1 h2 h3 h4=>ih _ _ _ _ _ _ _ _ hp2 h1 h2 h3 h4
    have soft: ∀{v:Value} {fr:Bool},Bt imp o.op=true→(fr=true→GZ o.op=true)→(fr=false→GZ o.op=false)→FD P all.toArray (EB A0 h0 w0) GH fr ⟨A,ν,n,As⟩ o v a→Fg P .any all.toArray Q (EB A0 h0 w0) GH rs QA N (listed.setIfInBounds i true) (a.put o.dst v) ⟨A,ν,n,As⟩→Fg P .any all.toArray Q (EB A0 h0 w0) GH rs QA (N+1) listed a ⟨A,ν,n,As⟩:=by
     intro v fr hsf hf1 hf2 hso hnext
     rw[if_pos hsf]at hp1
     simp only[Bool.and_eq_true]at hp1
     refine MQ (v:=v) EB.grew GH.refl GH.trans ho' (Region.noSelect_spec hs) (fun c a w=>hQ c a w _ _) (fun j oj hoj hji hrj=> ?_) N listed a _ (Region.free_spec ho' hp1.2) (by simpa using hp1.1) hso hnext
     rcases Ln hrs ho' hoj hji hrj with h|h
     ·cases fr with
      |true=>exact .inl rfl
      |false=>rw[hf2 rfl]at h;cases h
     ·exact .inr h
    -- an operation that is carried out
    have main:Region.wanted o (yielded all.toArray a.tmps)=true→DK ν n A (fun ν'=>HP P imp nt As m ν' n ρ A (fun As ν n ρ' A=>DL P imp nt all l As ν n ρ' A K) (some o))→Fg P .any all.toArray Q (EB A0 h0 w0) GH rs QA (N+1) listed a ⟨A,ν,n,As⟩:=by
     intro hwt f2
     by_cases hsf:Bt imp o.op=true
     ·have f3:DK ν n A fun ν'=>B4 P nt o ρ As fun ρ'=>DL P imp nt all l As ν' n ρ' A K:=f2.mono fun ν' h1=>by
       unfold HP at h1;simp only[hsf,if_true]at h1;exact h1
      have hnext: ∀v,DK ν n A (fun ν'=>BJ nt o.dst v ρ fun ρ'=>DL P imp nt all l As ν' n ρ' A K)→Fg P .any all.toArray Q (EB A0 h0 w0) GH rs QA N (listed.setIfInBounds i true) (a.put o.dst v) ⟨A,ν,n,As⟩:=by
       intro v hput
       cases hd:o.dst with
       |none=>
        rw[hd]at hput
        exact rest hk hj ⟨hh,hst0⟩ hput
       |some d=>
        have h1:=hst0.get hput
        rw[hd]at h1 hput
        exact rest (hk.put h1.1 v) hj ⟨hh,hst0⟩ (hput.mono fun ν' h2=>h2.2)
      cases hfs:GZ o.op with
      |true=>
       obtain⟨v,hv,hq⟩:=EH (FG hfs (hst0.get f3))
       exact soft (fr:=true) hsf (fun _=>hfs) (fun h=>by cases h) (.inl ⟨hwt,fun s w _ hw=>hq (fun w'=>Grew w.heap w'.heap∧BV w w') a hk (fun w1 ⟨q1,q2⟩=>⟨DO.nil _,fun w2 q3 q4=>⟨q1.trans q3,q2.trans q4⟩⟩) w ⟨Grew.refl _,BV.refl _⟩⟩) (hnext v (f3.mono fun ν' h1=>(hv _).1 (FG hfs h1)))
      |false=>
       obtain⟨v,hv,hq⟩:=EH (hst0.get f3)
       exact soft (fr:=false) hsf (fun h=>by cases h) (fun _=>hfs) (.inl ⟨hwt,fun s w hle hw=>hq (fun w'=>Grew w.heap w'.heap∧BV w w') a hk (fun w1 ⟨q1,q2⟩=>⟨(hw.1.sat.sub ((hle rfl).trans' hw.2.2.2)).grew q1,fun w2 q3 q4=>⟨q1.trans q3,q2.trans q4⟩⟩) w ⟨Grew.refl _,BV.refl _⟩⟩) (hnext v (f3.mono fun ν' h1=>(hv _).1 h1))
     ·rw[if_neg hsf]at hp1
      simp only[Bool.and_eq_true]at hp1
      obtain⟨hp1,hpm⟩:=hp1
      have hrd:Region.ready .any all.toArray listed=[i]:=by simpa using hp1
      have f3:DK ν n A fun ν'=>Bz P imp nt o ν' n ρ A fun ν n ρ' A'=>En As A' m fun As'=>DL P imp nt all l As' ν n ρ' A' K:=f2.mono fun ν' h1=>by
       unfold HP at h1;simp only[hsf]at h1;exact h1
      refine⟨fun h=>(by rw[hrd]at h;cases h),fun j hj'=> ?_⟩
      rw[hrd]at hj'
      have:j=i:=by simpa using hj'
      subst this
      intro w ⟨hst,hkp,hre,hsub⟩
      unfold wpOp
      simp only[ho']
      rw[if_pos hwt]
      refine .inl ?_
      have hw:=GN (X:=fun ch h'=>GG imp.X A w.heap ch h') (fun _ _ p=>p) (K':=ED (fun ν n ρ' A'=>En As A' m fun As'=>DL P imp nt all l As' ν n ρ' A' K) A w.heap) (fun ρ' h' p=>p) hst f3
      refine FQ (w0:=w0) (fun ch h a w hx hn hwh hr=>by subst hwh;exact hXQ ch a w hn.1 (hx.from hkp) hr) hw hk hre fun ρ' a' w' hp hk' hre' _=> ?_
      obtain⟨ν1,n1,A1,st1,kp1,f4⟩:=hp
      unfold En at f4
      by_cases hm2:m=2
      ·simp only[hm2,if_true]at f4
       rw[if_pos hm2]at hpm
       exact⟨⟨A1,ν1,n1,A1⟩,⟨st1,hkp.trans kp1,hre',SubA.refl _⟩,fun h=>(by rw[hpm]at h;cases h),rest hk' st1.inj ⟨w'.heap,st1⟩ f4⟩
      ·simp only[hm2,if_false]at f4
       have hsub1:=(st1.get f4).1
       by_cases hm1:m=1
       ·simp only[hm1,if_true]at f4
        exact⟨⟨A1,ν1,n1,A1⟩,⟨st1,hkp.trans kp1,hre',SubA.refl _⟩,fun _=>hsub1,rest hk' st1.inj ⟨w'.heap,st1⟩ (f4.mono fun ν' h1=>h1.2)⟩
       ·simp only[hm1,if_false]at f4
        exact⟨⟨A1,ν1,n1,As⟩,⟨st1,hkp.trans kp1,hre',hsub1⟩,fun _=>SubA.refl _,rest hk' st1.inj ⟨w'.heap,st1⟩ (f4.mono fun ν' h1=>h1.2)⟩
    have skip:Region.wanted o (yielded all.toArray a.tmps)=false→DK ν n A (fun ν'=>BJ nt o.dst undef ρ fun ρ'=>DL P imp nt all l As ν' n ρ' A K)→Fg P .any all.toArray Q (EB A0 h0 w0) GH rs QA (N+1) listed a ⟨A,ν,n,As⟩:=by
     intro hwt hput
     have hnext:Fg P .any all.toArray Q (EB A0 h0 w0) GH rs QA N (listed.setIfInBounds i true) (a.put o.dst undef) ⟨A,ν,n,As⟩:=by
      cases hd:o.dst with
      |none=>
       rw[hd]at hput
       exact rest hk hj ⟨hh,hst0⟩ hput
      |some d=>
       have h1:=hst0.get hput
       rw[hd]at h1 hput
       exact rest (hk.put h1.1 undef) hj ⟨hh,hst0⟩ (hput.mono fun ν' h2=>h2.2)
     by_cases hsf:Bt imp o.op=true
     ·cases hfs:GZ o.op with
      |true=>exact soft (fr:=true) hsf (fun _=>hfs) (fun h=>by cases h) (.inr ⟨hwt,rfl⟩) hnext
      |false=>exact soft (fr:=false) hsf (fun h=>by cases h) (fun _=>hfs) (.inr ⟨hwt,rfl⟩) hnext
     ·rw[if_neg hsf]at hp1
      simp only[Bool.and_eq_true]at hp1
      have hrd:Region.ready .any all.toArray listed=[i]:=by simpa using hp1.1
      refine⟨fun h=>(by rw[hrd]at h;cases h),fun j hj'=> ?_⟩
      rw[hrd]at hj'
      have:j=i:=by simpa using hj'
      subst this
      intro w hw
      unfold wpOp
      simp only[ho']
      rw[if_neg (by rw[hwt];decide)]
      exact⟨_,hw,fun _=>GH.refl _,hnext⟩
    cases hg:o.guard with
    |none=>
     refine main (by unfold Region.wanted;rw[hg]) (f1.mono fun ν' h1=> ?_)
     simp only[EF,hg]at h1
     exact h1
    | some g=>
     obtain⟨j,want⟩:=g
     have f4:DK ν n A fun ν'=>Ay (Cj all j) fun s=>Ay (get ρ s) fun v=>eV want v (HP P imp nt As m ν' n ρ A (fun As ν n ρ' A=>DL P imp nt all l As ν n ρ' A K) (some o)) (BJ nt o.dst undef ρ fun ρ'=>DL P imp nt all l As ν' n ρ' A K):=f1.mono fun ν' h1=>by
      simp only[EF,hg]at h1;exact h1
     obtain⟨s,h1,h0'⟩:=AB (hst0.get f4)
     obtain⟨v,h2,h0'⟩:=AB h0'
     have f5:=B8 h2 (B8 h1 f4)
     have hy:=hk.2.2 s v h2
     have dec:Region.wanted o (yielded all.toArray a.tmps)=(match v with| .bool b=>b==want|_=>false):=by
      unfold Region.wanted
      rw[hg]
      simp only[C1 h1,hy]
      cases v<;>first|rfl|(rename_i b;cases b<;>cases want<;>rfl)
     unfold eV at f5
     cases v with
     |bool b=>
      simp only at dec f5
      cases hb:(b==want)with
      |true=>exact main (by rw[dec,hb]) (f5.mono fun ν' h1=>h1.1 hb)
      |false=>exact skip (by rw[dec,hb]) (f5.mono fun ν' h1=>h1.2 hb)
     |_=>exact skip dec f5
end
theorem CO.tree[dd:DefD]{c:CxA}{id:Nat}{ops:Array Oper}{k:List It}{ρ:Ba}{A:AH}(rl:List Nat)(pl:PT)(As:AH)(hAs:SubA As A)(hm:c.P.follows .mixedOrders=true)(hs:Region.noSelect ops=true)(hrs:D6 ops (fun j=>rl.contains j)=true)(hpl:E1 c.imp ops (fun j=>rl.contains j) ops.size pl (Array.replicate ops.size false)=true)
  (hok:Ow c.P c.imp c.plans k=true) (hd: ∀ν,DN ν A→DL c.P c.imp c.n ops.toList pl As ν 0 ρ A fun ν n ρ' A=>Bi c k ν n ρ' A): @CO dd c (.code (.region id ops true)::k) ρ A ():=by
 intro A0 h0 h hsat kp hf b a w hb hn hk hw
 subst hw
 refine .of_wp (?_:(Code.region id ops true).wp c.P (fun e a' w'=>match e with| .normal=>DQ c.P b (k.map It.item) a' w' (fun e w'=>(c.cx A0 h0).R e w'.heap∧BV w w')| .panic ch=>a'.defers=DefD.ds∧((c.cx A0 h0).R (.panicked ch) w'.heap∧BV w w')|_=>False) a w) ⟨c.fn,by rw[hb];exact hf⟩ (fun e a' w' hq=>hq)
 have st:=St.start hsat
 have f1:DK (fun i=>w.heap.size+i) 0 A (fun ν'=>DL c.P c.imp c.n ops.toList pl As ν' 0 ρ A fun ν n ρ' A=>Bi c k ν n ρ' A):=DK.fresh hd
 refine wp_region_any hm (E2 (Inv:=EB A0 h0 w) (le:=GH) (rs:=(fun j=>rl.contains j)) (QA:=fun a' s=> ∃ρ',CV c.n ρ' a'∧DK s.ν s.n s.A fun ν'=>Bi c k ν' s.n ρ' s.A) ?_ _ _ _ ⟨A,fun i=>w.heap.size+i,0,As⟩ _ ⟨st,kp,⟨rfl,rfl,rfl⟩,hAs⟩ ?_)
 ·rintro a' s w' ⟨ρ',hk',f⟩ ⟨h1,h2,h3,_⟩
  exact Df (c.cx A0 h0) _ _ _ _ (Nat.le_refl _) (Pj c _ k ρ' s.A s.n s.ν w'.heap hok (Nat.le_refl _) h1 f A0 h0 h2) w hf b a' w' hb hn hk' rfl h3
 ·have:=RT (P:=c.P) (imp:=c.imp) (nt:=c.n) (all:=ops.toList) (A0:=A0) (h0:=h0) (w0:=w) (rs:=(fun j=>rl.contains j)) (K:=fun ν n ρ' A=>Bi c k ν n ρ' A)
   (Q:=fun e a' w'=>match e with| .normal=>DQ c.P b (k.map It.item) a' w' (fun e w'=>(c.cx A0 h0).R e w'.heap∧BV w w')| .panic ch=>a'.defers=DefD.ds∧((c.cx A0 h0).R (.panicked ch) w'.heap∧BV w w')|_=>False)
   (fun ch a' w' h1 h2 h3=>⟨h1,Ho h2,h3⟩) (by simpa using hs) (by simpa using hrs) (fun c' a' w' dst v hq=>⟨by have h1:=hq.1;cases dst<;>exact h1,hq.2⟩) (QA:=fun a' s=> ∃ρ',CV c.n ρ' a'∧DK s.ν s.n s.A fun ν'=>Bi c k ν' s.n ρ' s.A) (fun ρ' a' A' ν' n' As' hk' f=>⟨ρ',hk',f⟩)
   ops.size pl (Array.replicate ops.size false) ρ a A As (fun i=>w.heap.size+i) 0 (by simpa using hpl) hk st.inj ⟨w.heap,st⟩ f1
  simpa using this
section
variable (P:Program) (imp:Imp) (nt:Nat) (all:List Oper) (As:AH) (ν:Nu) (n:Nat) (ρ:Ba) (A:AH) (K:Nu→Nat→Ba→AH→Prop)
theorem E5:DL P imp nt all .nil As ν n ρ A K=K ν n ρ A:=rfl
theorem Ew(i m:Nat)(p:PT):DL P imp nt all (.one i m p) As ν n ρ A K=EF P imp nt all As m ν n ρ A (fun As ν n ρ' A=>DL P imp nt all p As ν n ρ' A K) all[i]? :=rfl
theorem E3(i mi:Nat)(p:PT)(j mj:Nat)(q:PT):DL P imp nt all (.two i mi p j mj q) As ν n ρ A K=(EF P imp nt all As mi ν n ρ A (fun As ν n ρ' A=>DL P imp nt all p As ν n ρ' A K) all[i]? ∧EF P imp nt all As mj ν n ρ A (fun As ν n ρ' A=>DL P imp nt all q As ν n ρ' A K) all[j]?):=rfl
end
end Go.Vm
