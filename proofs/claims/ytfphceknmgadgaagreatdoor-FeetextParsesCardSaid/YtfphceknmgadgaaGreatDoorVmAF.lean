/-
Arguments that came in, with a bound for their texts.
Conditions: none. Generic: it speaks of no program.
-/
import Derived.Test.YtfphceknmgadgaaGreatDoorVmOpen
import Derived.Handed
set_option linter.unusedSimpArgs false
set_option linter.unusedVariables false
namespace Go.Vm
mutual
def kZ(N:Nat):Sh→List Value→Prop
 | .int k,cs=> ∃n,cs=[.int k n]∧(Lit.int k n).wf=true
 | .bool,cs=> ∃b,cs=[.bool b]
 | .str,cs=> ∃s:ByteArray,cs=[.string s]∧s.size≤N
 | .st n l,cs=>cs.length=n∧Tw N l cs
 | .sl _ _,_=>True
def Tw(N:Nat):List (Nat×Nat×Sh)→List Value→Prop
 | [],_=>True
 |(o,n,s)::l,cs=>kZ N s ((cs.drop o).take n)∧Tw N l cs
end
section
variable {H:Type} {enc:TypeId×Value→H} {P:Program} {w:World} {base:Nat} {sp:Nat→Bool} {held:Bool} {N:Nat}
theorem JO: ∀(ts:List TypeId) (ds:List (DataW H)) (i:Nat) (t:TypeId) (d:DataW H),ts[i]? =some t→ds[i]? =some d→ ∀n∈d.weights P t,n∈DataW.weightsEach P ts ds
 | [],_,_,_,_,h,_=>by simp at h
 |_::_,[],_,_,_,_,h=>by simp at h
 |t::ts,d::ds,0,_,_,h1,h2=>by
  simp at h1 h2
  subst h1 h2
  intro n hn
  simp[DataW.weightsEach,hn]
 |t::ts,d::ds,i+1,_,_,h1,h2=>by
  intro n hn
  have:=JO ts ds i _ _ (by simpa using h1) (by simpa using h2) n hn
  simp[DataW.weightsEach,this]
mutual
theorem YJ(s:Sh)(t:TypeId)(fuel:Nat)(cs:List Value)(x:DataW H×List MemPlace)(hs:Jw P s t=true)(h:DataW.trod enc P w base sp held fuel t cs=some x)(hw: ∀n∈x.1.weights P t,n≤N):kZ N s cs:=by
 cases s with
 | int k=>
  simp only[Jw]at hs
  split at hs
  ·rename_i k' ht
   have:k'=k:=by simpa using hs
   subst this
   obtain⟨n,h1,_,h2⟩:=DataW.trod_int ht h
   exact⟨n,h1,h2⟩
  ·cases hs
 | bool=>
  simp only[Jw]at hs
  split at hs
  ·rename_i ht
   obtain⟨b,h1,_⟩:=DataW.trod_bool ht h
   exact⟨b,h1⟩
  ·cases hs
 | str=>
  simp only[Jw]at hs
  split at hs
  ·rename_i ht
   obtain⟨b,h1,h3,h2⟩:=DataW.trod_string ht h
   subst h3
   refine⟨b,h1,hw _ ?_⟩
   rw[DataW.weights,List.mem_singleton,Array.length_toList]
   rfl
  ·cases hs
 | st n l=>
  simp only[Jw]at hs
  split at hs
  ·rename_i fs ht
   simp only[Bool.and_eq_true,decide_eq_true_eq]at hs
   obtain⟨xs,m,rfl,hx,h1,h2,h3⟩:=DataW.trod_struct ht h
   subst hx
   refine⟨h1.trans hs.1,Oj l fs.toList m cs hs.2 fun f hf=> ?_⟩
   obtain⟨i,hi⟩:=List.getElem?_of_mem hf
   have hi':fs[i]? =some f:=by simpa using hi
   have:=h3 i f hi'
   have hlt:i<xs.length:=by rw[h2];exact(Array.getElem?_eq_some_iff.1 hi').1
   refine⟨xs[i],by rw[this,List.getElem?_eq_getElem hlt],fun n hn=>hw n ?_⟩
   simp only[DataW.weights,ht]
   exact JO _ _ i f.type _ (by simp[hi']) (by simp[List.getElem?_eq_getElem hlt]) n hn
  ·cases hs
 |sl n s=>trivial
theorem Oj(l:List (Nat×Nat×Sh))(fs:List Field)(m:Nat)(cs:List Value)(hs:Kq P l fs=true)
  (h: ∀f∈fs,∃x,DataW.trod enc P w base sp held m f.type ((cs.drop f.offset).take (P.cellsOf f.type))=some x∧ ∀n∈x.1.weights P f.type,n≤N):Tw N l cs:=by
 cases l with
 |nil=>trivial
 | cons p l=>
  obtain⟨o,n,s⟩:=p
  cases fs with
  |nil=>simp[Kq]at hs
  |cons f fs=>
   simp only[Kq,Bool.and_eq_true,decide_eq_true_eq]at hs
   obtain⟨rfl,rfl,h1,h2⟩:=hs
   obtain⟨x,hx,hw⟩:=h f (List.mem_cons_self ..)
   exact⟨YJ s f.type m _ x h1 hx hw,Oj l fs m cs h2 fun g hg=>h g (List.mem_cons_of_mem _ hg)⟩
end
end
end Go.Vm
