/-
A region that draws its order, along a plan, with a chosen part of what is known for its loads.
Conditions: none.
-/
import Derived.Test.YtfphceknmgadgaaGreatDoorVmAO
set_option linter.unusedSimpArgs false
set_option linter.unusedVariables false
namespace Go.Vm
set_option maxRecDepth 20000
theorem CO.plan[dd:DefD]{c:CxA}{id:Nat}{ops:Array Oper}{k:List It}{ρ:Ba}{A:AH}(pl:List (Nat×Nat))(As:AH)(hAs:SubA As A)(hm:c.P.follows .mixedOrders=true)(hs:Region.noSelect ops=true)(hl:pl.length=ops.size)(hrs:D6 ops (HZ pl)=true)(hpl:GQ c.imp ops (HZ pl) pl (Array.replicate ops.size false)=true)
  (hok:Ow c.P c.imp c.plans k=true) (hd: ∀ν,DN ν A→DM c.P c.imp c.n ops.toList pl As ν 0 ρ A fun ν n ρ' A=>Bi c k ν n ρ' A): @CO dd c (.code (.region id ops true)::k) ρ A ():=by
 intro A0 h0 h hsat kp hf b a w hb hn hk hw
 subst hw
 refine .of_wp (?_:(Code.region id ops true).wp c.P (fun e a' w'=>match e with| .normal=>DQ c.P b (k.map It.item) a' w' (fun e w'=>(c.cx A0 h0).R e w'.heap∧BV w w')| .panic ch=>a'.defers=DefD.ds∧((c.cx A0 h0).R (.panicked ch) w'.heap∧BV w w')|_=>False) a w) ⟨c.fn,by rw[hb];exact hf⟩ (fun e a' w' hq=>hq)
 have st:=St.start hsat
 have f1:DK (fun i=>w.heap.size+i) 0 A (fun ν'=>DM c.P c.imp c.n ops.toList pl As ν' 0 ρ A fun ν n ρ' A=>Bi c k ν n ρ' A):=DK.fresh hd
 refine wp_region_any hm (E2 (Inv:=EB A0 h0 w) (le:=GH) (rs:=HZ pl) (QA:=fun a' s=> ∃ρ',CV c.n ρ' a'∧DK s.ν s.n s.A fun ν'=>Bi c k ν' s.n ρ' s.A) ?_ _ _ _ ⟨A,fun i=>w.heap.size+i,0,As⟩ _ ⟨st,kp,⟨rfl,rfl,rfl⟩,hAs⟩ ?_)
 ·rintro a' s w' ⟨ρ',hk',f⟩ ⟨h1,h2,h3,_⟩
  exact Df (c.cx A0 h0) _ _ _ _ (Nat.le_refl _) (Pj c _ k ρ' s.A s.n s.ν w'.heap hok (Nat.le_refl _) h1 f A0 h0 h2) w hf b a' w' hb hn hk' rfl h3
 ·have:=GV (P:=c.P) (imp:=c.imp) (nt:=c.n) (all:=ops.toList) (A0:=A0) (h0:=h0) (w0:=w) (rs:=HZ pl) (K:=fun ν n ρ' A=>Bi c k ν n ρ' A)
   (Q:=fun e a' w'=>match e with| .normal=>DQ c.P b (k.map It.item) a' w' (fun e w'=>(c.cx A0 h0).R e w'.heap∧BV w w')| .panic ch=>a'.defers=DefD.ds∧((c.cx A0 h0).R (.panicked ch) w'.heap∧BV w w')|_=>False)
   (fun ch a' w' h1 h2 h3=>⟨h1,Ho h2,h3⟩) (by simpa using hs) (by simpa using hrs) (fun c' a' w' dst v hq=>⟨by have h1:=hq.1;cases dst<;>exact h1,hq.2⟩) (QA:=fun a' s=> ∃ρ',CV c.n ρ' a'∧DK s.ν s.n s.A fun ν'=>Bi c k ν' s.n ρ' s.A) (fun ρ' a' A' ν' n' As' hk' f=>⟨ρ',hk',f⟩)
   pl (Array.replicate ops.size false) ρ a A As (fun i=>w.heap.size+i) 0 (by simpa using hpl) hk st.inj ⟨w.heap,st⟩ f1
  rw[hl]at this
  simpa using this
end Go.Vm
