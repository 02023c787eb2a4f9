/-
Functions that defer: their regions one by one, evaluated over the blocks that are known; a call that may panic; the whole call.
Conditions: none. Generic: it speaks of no program.
-/
import Derived.Test.YtfphceknmgadgaaGreatDoorVmAL
import Derived.Recover
set_option linter.unusedSimpArgs false
set_option linter.unusedVariables false
namespace Go.Vm
section
variable {P:Program} {imp:Imp} {n id:Nat} {ops:List Oper} {ρ:Ba} {A:AH} {Q:Exit→Act→World→Prop} {a:Act} {w:World} {KK:Ba→AH→Prop}
theorem CU[dd:DefD](hk:CV n ρ a)(hs:DO A w.heap)(h: ∀ν,DN ν A→Bd P imp n ops 400 none ops ν 0 ρ A (fun _ _ ρ' A'=>KK ρ' A'))
  (hX: ∀ch a' w',GG imp.X A w.heap ch w'.heap→CV n [] a'→BV w w'→Q (.panic ch) a' w')
  (hK: ∀ρ' A' a' w',KK ρ' A'→CV n ρ' a'→DO A' w'.heap→Ca A w.heap A' w'.heap→BV w w'→Q .normal a' w'):(Code.region id ops.toArray false).wp P Q a w:=by
 have h1:B7 P n ops 400 none ops ρ w.heap (fun ρ' h'=> ∃A',KK ρ' A'∧DO A' h'∧Ca A w.heap A' h') (fun ch h'=>GG imp.X A w.heap ch h'):=by
  refine MU (K:=fun _ _ ρ' A'=>KK ρ' A') _ _ _ _ _ _ _ _ _ (fun ch h' p=>p) (fun ρ' h' p=> ?_) (St.start hs) (DK.fresh h)
  obtain⟨ν1,n1,A1,st,kp,f⟩:=p
  exact⟨A1,st.get f,st.sat,kp⟩
 have h2:=JG (all:=ops) (w0:=w) (Q:=Q) (fun ch h a' w' q1 q2 q3 q4=>hX ch a' w' (by rw[q3];exact q1) q2 q4) 400 none ops ρ _ a w [] h1 hk (BV.refl w) trivial
  (fun ρ' a' w' ⟨A',k1,k2,k3⟩ k4 k5 _=>wpList_nil (hK ρ' A' a' w' k1 k4 k2 k3 k5))
 rw[List.append_nil]at h2
 exact wp_region_lit h2
theorem HR[dd:DefD](pl:List (Nat×Nat))(As:AH)(hAs:SubA As A)(hm:P.follows .mixedOrders=true)(hns:Region.noSelect ops.toArray=true)(hl:(pl.length==ops.length)=true)(hrs:D6 ops.toArray (HZ pl)=true)(hpl:GQ imp ops.toArray (HZ pl) pl (Array.replicate ops.length false)=true)
  (hk:CV n ρ a) (hs:DO A w.heap) (h: ∀ν,DN ν A→DM P imp n ops pl As ν 0 ρ A (fun _ _ ρ' A'=>KK ρ' A'))
  (hX: ∀ch a' w',GG imp.X A w.heap ch w'.heap→a'.defers=DefD.ds→BV w w'→Q (.panic ch) a' w') (hQ: ∀c a w dst v,Q (.panic c) (Act.put a dst v) w→Q (.panic c) a w)
  (hK: ∀ρ' A' a' w',KK ρ' A'→CV n ρ' a'→DO A' w'.heap→Ca A w.heap A' w'.heap→BV w w'→Q .normal a' w'):(Code.region id ops.toArray true).wp P Q a w:=by
 simp only[beq_iff_eq]at hl
 refine wp_region_any hm (E2 (Inv:=EB A w.heap w) (le:=GH) (rs:=HZ pl) (QA:=fun a' s=> ∃ρ',CV n ρ' a'∧DK s.ν s.n s.A fun _=>KK ρ' s.A) ?_ _ _ _ ⟨A,fun i=>w.heap.size+i,0,As⟩ _ ⟨St.start hs,Ca.refl _ _,⟨rfl,rfl,rfl⟩,hAs⟩ ?_)
 ·rintro a' s w' ⟨ρ',hk',f⟩ ⟨h1,h2,h3,_⟩
  exact hK ρ' s.A a' w' (h1.get f) hk' h1.sat h2 h3
 ·have:=GV (P:=P) (imp:=imp) (nt:=n) (all:=ops) (A0:=A) (h0:=w.heap) (w0:=w) (rs:=HZ pl) (K:=fun _ _ ρ' A'=>KK ρ' A') (Q:=Q)
   (fun ch a' w' h1 h2 h3=>hX ch a' w' h2 h1 h3) (by simpa using hns) (by simpa using hrs) hQ (QA:=fun a' s=> ∃ρ',CV n ρ' a'∧DK s.ν s.n s.A fun _=>KK ρ' s.A) (fun ρ' a' A' ν' n' As' hk' f=>⟨ρ',hk',f⟩)
   pl (Array.replicate ops.length false) ρ a A As (fun i=>w.heap.size+i) 0 (by simpa using hpl) hk (St.start hs).inj ⟨w.heap,St.start hs⟩ (DK.fresh h)
  rw[hl]at this
  simpa using this
theorem Fw[dd:DefD]{l:Array Oper}{g:FuncId}{fv:Operand}{xs:Array Operand}{ts:Array TypeId}{vs:List Value}{f:Value}{d:Nat}{ty:TypeId}{pos:String}{aft:Array Edge}{fs cs:Array Value}{X:List PanicEntry→AH→Prop}{K:Value→AH→Prop}
  (hk:CV n ρ a) (hs:DO A w.heap) (hf:BE ρ fv=some (.func (.func g) fs cs)) (hv:GA ρ xs.toList=some vs) (hcl:AD P g=true) (hd:d<n)
  (hc:AZ P g (fs++vs.toArray++cs) A X K)
  (hX: ∀ch A' w',X ch A'→DO A' w'.heap→Ca A w.heap A' w'.heap→BV w w'→Q (.panic ch) a w')
  (hK: ∀v A' a' w',K v A'→CV n ((d,some v)::ρ) a'→DO A' w'.heap→Ca A w.heap A' w'.heap→BV w w'→Q .normal a' w'):
  wpList P l Q [⟨some d,.call ⟨.value fv,xs,ts⟩,ty,pos,aft,none⟩] a w:=by
 have hcc:CallsH P g (fs++vs.toArray++cs) w.heap (cC A w.heap X K):=by
  have:=hc w.heap hs
  unfold E4 at this
  rwa [if_pos hcl]at this
 have hrun:(execOp a.eval ⟨some d,.call ⟨.value fv,xs,ts⟩,ty,pos,aft,none⟩).run P w=.ok (.enter g (fs++vs.toArray++cs)) w:=by
  simp only[execOp,resolve,Ac hk hf,Deferred.ofValue,Sem.run_bind,Sem.run_pure,Result.andThen_ok,invoke,DY hk hv]
  exact DJ hcl
 unfold wpList
 rw[if_pos (by simp[Region.wanted])]
 refine .inl ?_
 unfold Oper.wp
 rw[hrun]
 simp only[Oper.upon]
 refine(hcc w rfl).mono fun e w' ⟨hR,hre⟩=> ?_
 rcases hR with⟨v,A',rfl,h1,h2,h3⟩|⟨ch,A',rfl,h1,h2,h3⟩
 ·exact hK v A' _ w' h3 (hk.put hd v) h1 h2 hre
 ·exact hX ch A' w' h3 h1 h2 hre
theorem DC[dd:DefD]{l:Array Oper}{o:Oper}{tl:List Oper}(hg:o.guard=none)(hk:CV n ρ a)(hs:DO A w.heap)
  (h: ∀ν,DN ν A→Bz P imp n o ν 0 ρ A (fun _ _ ρ' A'=>KK ρ' A'))
  (hX: ∀ch w',GG imp.X A w.heap ch w'.heap→BV w w'→Q (.panic ch) a w')
  (hK: ∀ρ' A' a' w',KK ρ' A'→CV n ρ' a'→DO A' w'.heap→Ca A w.heap A' w'.heap→BV w w'→wpList P l Q tl a' w'):wpList P l Q (o::tl) a w:=by
 have h1:BZ P n o ρ w.heap (fun ρ' h'=> ∃A',KK ρ' A'∧DO A' h'∧Ca A w.heap A' h') (fun ch h'=>GG imp.X A w.heap ch h'):=by
  refine GN (K:=fun _ _ ρ' A'=>KK ρ' A') (fun ch h' p=>p) (fun ρ' h' p=> ?_) (St.start hs) (DK.fresh h)
  obtain⟨ν1,n1,A1,st,kp,f⟩:=p
  exact⟨A1,st.get f,st.sat,kp⟩
 unfold wpList
 rw[if_pos (by simp[Region.wanted,hg])]
 exact .inl (JM (w0:=w) (fun ch h w' q1 q2 q3=>hX ch w' (by rw[q2];exact q1) q3) h1 hk (BV.refl w) (fun ρ' a' w' ⟨A',k1,k2,k3⟩ k4 k5 _=>hK ρ' A' a' w' k1 k4 k2 k3 k5))
end
theorem eP{n:Nat}{args:List Value}(ha:args.length≤n): @CV dd0 n (J3 0 args) {tmps:=args.toArray++Array.replicate (n - args.toArray.size) undef,defers:=[]}:=by
 refine⟨rfl,by simp;omega,fun t v ht=> ?_⟩
 obtain⟨j,h1,h2⟩:=Mj args 0 t v ht
 have hj:j<args.length:=by
  rcases Nat.lt_or_ge j args.length with h|h
  ·exact h
  ·rw[List.getElem?_eq_none h]at h2;cases h2
 have:t=j:=by omega
 subst this
 simp only[Array.getElem?_append]
 rw[if_pos (by simpa using hj)]
 simpa using h2
theorem GB{P:Program}{f:FuncId}{fn:Func}{c:Code}{args:List Value}{A:AH}{K:Value→AH→Prop}(hf:P.funcs[f]? =some fn)(hb:fn.body=some c)(hcl:AD P f=true){n:Nat}(hn:fn.ntmps=n)(ha:args.length≤n)
  (h: ∀(a:Act) (w:World),a.defers=[]→ @CV dd0 n (J3 0 args) a→DO A w.heap→c.wp P (bodyPostD P fn fun e w'=>HU A w.heap K e w'.heap∧BV w w') a w):AM P f args.toArray A K:=by
 intro h0 hs
 unfold E4
 rw[if_pos hcl]
 intro w hw
 subst hw
 refine calls_of_wp_defers hf hb ?_
 rw[hn]
 exact h _ w rfl (eP ha) hs
theorem CV.defers{n:Nat}{ρ:Ba}{a:Act}(d1 d2:DefD)(hk: @CV d1 n ρ a)(h:a.defers=d2.ds): @CV d2 n ρ a:=⟨h,hk.2⟩
end Go.Vm
