/-
A whole memory as known blocks.
Conditions: none. Generic: it speaks of no program.
-/
import Derived.Test.YtfphceknmgadgaaGreatDoorVmAS
import Derived.Test.YtfphceknmgadgaaGreatDoorVmAL
import Derived.Handed
set_option linter.unusedSimpArgs false
set_option linter.unusedVariables false
namespace Go.Vm
def lJ:List Obj→Nat→AH
 | [],_=>[]
 |o::l,i=>(i,o)::lJ l (i+1)
theorem P9: ∀(l:List Obj) (i b:Nat),AA (lJ l i) b=if i≤b then l[b - i]? else none
 | [],i,b=>by simp[lJ,AA]
 | o::l,i,b=>by
  simp only[lJ,AA]
  by_cases h:i=b
  ·subst h;simp
  ·rw[if_neg h,P9 l (i+1) b]
   by_cases h1:i≤b
   ·rw[if_pos h1,if_pos (by omega),show b - i=(b - (i+1))+1 by omega,List.getElem?_cons_succ]
   ·rw[if_neg h1,if_neg (by omega)]
def Lr(h:AX):AH:=lJ h.toList 0
theorem NC(h:AX)(b:Nat):AA (Lr h) b=h[b]? :=by
 unfold Lr
 rw[P9,if_pos (Nat.zero_le _),Nat.sub_zero,Array.getElem?_toList]
theorem ZD(h:AX):Dq (Lr h) h:=fun b o hl=>by rw[NC]at hl;exact hl
theorem Dq.sub_all{A:AH}{h:AX}(hs:Dq A h):SubA A (Lr h):=fun b o hl=>by rw[NC];exact hs b o hl
theorem aB{α:Type}(f:α→List Value){n:Nat}{h:AX}{a:Addr}{L:List α}(hn:0<n)(hf: ∀x,(f x).length=n)(hc: ∀(i:Nat) (x:α),L[i]? =some x→ ∀j,j<n→Fe h ((a.add (i*n)).add j)=(f x)[j]?):E8 f n (Lr h) (some a) L:=by
 cases L with
 |nil=>exact .inl rfl
 | cons x0 L=>
  have e4:=hc 0 x0 rfl 0 hn
  rw[List.getElem?_eq_getElem (by rw[hf];exact hn)]at e4
  simp only[Nat.zero_mul]at e4
  have hz: ∀(x:Addr),x.add 0=x:=by intro x;unfold Addr.add;simp
  rw[hz,hz]at e4
  obtain⟨f1,c,e,fr,f2,f3⟩:=oF e4
  obtain⟨b,off,spot⟩:=a
  simp only at f1 f2 f3
  subst f1
  have hadd: ∀o k:Nat,Addr.add ⟨b,o,none⟩ k=⟨b,o+k,none⟩:=by intro o k;simp[Addr.add]
  refine .inr ⟨b,off,c,e,fr,rfl,by rw[NC];exact f2,fun i x hi=> ?_⟩
  have cell: ∀j,j<n→c[off+i*n+j]? =(f x)[j]? :=by
   intro j hj
   have:=hc i x hi j hj
   rw[hadd,hadd]at this
   rw[←this]
   simp[Fe,f2]
  have hsz:off+i*n+n≤c.size:=by
   have:=cell (n - 1) (by omega)
   rw[List.getElem?_eq_getElem (by rw[hf];omega)]at this
   have:=(Array.getElem?_eq_some_iff.1 this).1
   omega
  unfold EZ
  simp only
  rw[if_pos hsz]
  congr 1
  apply Array.ext'
  apply List.ext_getElem?
  intro j
  simp only[Array.toList_extract,List.extract_eq_take_drop]
  rw[List.getElem?_take]
  split
  ·rename_i hj
   have:=cell j (by omega)
   rw[List.getElem?_drop]
   simpa using this
  ·rename_i hj
   rw[List.getElem?_eq_none (by rw[hf];omega)]
section
variable {H:Type} {P:Program}
theorem Mw: ∀(ts:List TypeId) (ds:List (DataW H)) (i:Nat) (t:TypeId) (d:DataW H),ts[i]? =some t→ds[i]? =some d→ ∀n∈d.weights P t,n∈DataW.weightsEach P ts ds
 | [],_,_,_,_,h,_=>by simp at h
 |_::_,[],_,_,_,_,h=>by simp at h
 |t::ts,d::ds,0,_,_,h1,h2=>by
  simp at h1 h2
  subst h1 h2
  intro n hn
  simp[DataW.weightsEach,hn]
 |t::ts,d::ds,i+1,_,_,h1,h2=>by
  intro n hn
  have:=Mw ts ds i _ _ (by simpa using h1) (by simpa using h2) n hn
  simp[DataW.weightsEach,this]
theorem Wq: ∀(ds:List (DataW H)) (i:Nat) (e:TypeId) (d:DataW H),ds[i]? =some d→ ∀n∈d.weights P e,n∈DataW.weightsAll P e ds
 | [],_,_,_,h=>by simp at h
 |d::ds,0,_,_,h1=>by
  simp at h1
  subst h1
  intro n hn
  simp[DataW.weightsAll,hn]
 |d::ds,i+1,_,_,h1=>by
  intro n hn
  have:=Wq ds i _ _ (by simpa using h1) n hn
  simp[DataW.weightsAll,this]
end
end Go.Vm
