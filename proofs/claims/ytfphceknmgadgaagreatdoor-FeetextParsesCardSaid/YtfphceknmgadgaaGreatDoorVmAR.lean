/-
Parts of what is known that do not touch: a list of them, picked and put together.
Conditions: none. Generic: it speaks of no program.
-/
import Derived.Test.YtfphceknmgadgaaGreatDoorVmAQ
set_option linter.unusedSimpArgs false
set_option linter.unusedVariables false
namespace Go.Vm
def cat:List AH→AH
 | []=>[]
 | [x]=>x
 |x::y::l=>x++cat (y::l)
def Hr(x:AH):List AH→Prop
 | []=>True
 |y::l=>Dis x y∧Hr x l
def Sep:List AH→Prop
 | []=>True
 |x::l=>Hr x l∧Sep l
theorem Mu(x:AH)(l:List AH): ∀b,AA (cat (x::l)) b=AA (x++cat l) b:=by
 intro b
 cases l with
 |nil=>simp[cat,By,AA]
 |cons y l=>rfl
theorem Hr.all{x:AH}: ∀{l:List AH},Hr x l→ ∀y∈l,Dis x y
 | [],_,_,h=>by cases h
 |z::l,h,y,hy=>by
  rcases List.mem_cons.1 hy with e|e
  ·rw[e];exact h.1
  ·exact Hr.all h.2 y e
theorem Hr.of{x:AH}: ∀{l:List AH},(∀y∈l,Dis x y)→Hr x l
 | [],_=>trivial
 |z::l,h=>⟨h z (by simp),Hr.of fun y hy=>h y (by simp[hy])⟩
theorem SN: ∀{l:List AH} {b:Nat} {o:Obj},AA (cat l) b=some o→ ∃x∈l,AA x b=some o
 | [],b,o,h=>by cases h
 | x::l,b,o,h=>by
  rw[Mu,By]at h
  cases hx:AA x b with
  |some u=>rw[hx]at h;exact⟨x,by simp,by rw[hx];exact h⟩
  |none=>
   rw[hx]at h
   obtain⟨y,hy,h2⟩:=SN h
   exact⟨y,by simp[hy],h2⟩
theorem Sw: ∀{l:List AH} {b:Nat},AA (cat l) b=none→ ∀x∈l,AA x b=none
 | [],_,_,_,h=>by cases h
 | x::l,b,h,y,hy=>by
  rw[Mu,By]at h
  cases hx:AA x b with
  |some u=>rw[hx]at h;cases h
  |none=>
   rw[hx]at h
   rcases List.mem_cons.1 hy with e|e
   ·rw[e];exact hx
   ·exact Sw h y e
theorem Hr.cat{x:AH}{l:List AH}(h:Hr x l):Dis x (cat l):=fun b hb=>by
 cases hc:AA (Vm.cat l) b with
 |none=>exact absurd hc hb
 |some o=>
  obtain⟨y,hy,h2⟩:=SN hc
  exact h.all y hy b (by rw[h2];simp)
theorem Dis.sepT{x:AH}{l:List AH}(h:Dis x (Vm.cat l)):Hr x l:=Hr.of fun y hy b hb=>by
 refine h b fun hn=>hb ?_
 exact Sw hn y hy
theorem Sep.sub: ∀{l:List AH},Sep l→ ∀x∈l,SubA x (cat l)
 | [],_,_,h=>by cases h
 | y::l,h,x,hx=>fun b o hl=>by
  rw[Mu,By]
  rcases List.mem_cons.1 hx with e|e
  ·subst e;rw[hl]
  ·have:AA y b=none:=h.1.all x e b (by rw[hl];simp)
   rw[this]
   exact Sep.sub h.2 x e b o hl
def at_(l:List AH)(i:Nat):AH:=match l,i with
 | [],_=>[]
 |x::_,0=>x
 |_::l,i+1=>at_ l i
def pick(l:List AH):List Nat→List AH
 | []=>[]
 |i::is=>at_ l i::pick l is
theorem Py: ∀{l:List AH} {i:Nat},i<l.length→at_ l i∈l
 | [],_,h=>by simp at h
 |x::l,0,_=>by simp[at_]
 |x::l,i+1,h=>by simp[at_,Py (l:=l) (i:=i) (by simpa using h)]
theorem Sep.dis2: ∀{l:List AH},Sep l→ ∀{i j:Nat},i≠j→i<l.length→j<l.length→Dis (at_ l i) (at_ l j)
 | [],_,i,_,_,h,_=>by simp at h
 |x::l,h,0,0,hn,_,_=>absurd rfl hn
 |x::l,h,0,j+1,_,_,hj=>h.1.all _ (Py (by simpa using hj))
 |x::l,h,i+1,0,_,hi,_=>(h.1.all _ (Py (by simpa using hi))).symm
 |x::l,h,i+1,j+1,hn,hi,hj=>Sep.dis2 h.2 (by omega) (by simpa using hi) (by simpa using hj)
def cU:List Nat→Bool
 | []=>true
 |i::is=> !is.contains i&&cU is
theorem Nh{l:List AH}(h:Sep l){i:Nat}(hi:i<l.length): ∀{is:List Nat},i∉is→(∀j∈is,j<l.length)→Hr (at_ l i) (pick l is)
 | [],_,_=>trivial
 |j::is,hn,hl=>⟨h.dis2 (fun e=>hn (by simp[e])) hi (hl j (by simp)),Nh h hi (fun e=>hn (by simp[e])) (fun k hk=>hl k (by simp[hk]))⟩
theorem Sep.pick{l:List AH}(h:Sep l): ∀(is:List Nat),(is.all fun i=>decide (i<l.length))=true→cU is=true→Sep (pick l is)
 | [],_,_=>trivial
 |i::is,hi,hn=>by
  simp only[List.all_cons,Bool.and_eq_true,decide_eq_true_eq]at hi
  simp only[cU,Bool.and_eq_true,Bool.not_eq_true',List.contains_eq_mem,decide_eq_false_iff_not]at hn
  exact⟨Nh h hi.1 hn.1 (by have:=hi.2;simpa using this),Sep.pick h is hi.2 hn.2⟩
theorem Sep.dis{x:AH}{l:List AH}(h:Sep (x::l)):Dis x (cat l):=h.1.cat
theorem Sep.cons{x:AH}{l:List AH}(d:Dis x (cat l))(h:Sep l):Sep (x::l):=⟨d.sepT,h⟩
theorem Sep.fresh{b:Nat}{l:List AH}(h:AA (cat l) b=none)(o:Obj)(s:Sep l):Sep ([(b,o)]::l):=.cons (Dis.one h) s
theorem Sep.one(x:AH):Sep [x]:=⟨trivial,trivial⟩
end Go.Vm
