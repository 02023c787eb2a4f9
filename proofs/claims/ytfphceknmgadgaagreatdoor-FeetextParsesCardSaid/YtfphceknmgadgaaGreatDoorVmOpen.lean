/-
Opening what came in: from the reading of an argument to what its cells hold: integers, bools, strings, structs and slices of these.
Conditions: none. Generic: it speaks of no program.
-/
import Derived.ChangeArms
import Derived.DataReads
import Derived.Test.YtfphceknmgadgaaGreatDoorVmRules
set_option linter.unusedSimpArgs false
set_option linter.unusedVariables false
namespace Go.Vm
inductive Sh where
 |int (k:IntKind)
 |bool
 |str
 |st (n:Nat) (fs:List (Nat×Nat×Sh))
 |sl (n:Nat) (s:Sh)
mutual
def Jw(P:Program):Sh→TypeId→Bool
 | .int k,t=>match P.underlying t with|some (.int k')=>decide (k'=k)|_=>false
 | .bool,t=>match P.underlying t with|some .bool=>true|_=>false
 | .str,t=>match P.underlying t with|some .string=>true|_=>false
 | .st n l,t=>match P.underlying t with|some (.struct fs)=>decide (P.cellsOf t=n)&&Kq P l fs.toList|_=>false
 | .sl n s,t=>match P.underlying t with|some (.slice e)=>decide (P.cellsOf e=n)&&Jw P s e|_=>false
def Kq(P:Program):List (Nat×Nat×Sh)→List Field→Bool
 | [],[]=>true
 |(o,n,s)::l,f::fs=>decide (f.offset=o)&&(decide (P.cellsOf f.type=n)&&(Jw P s f.type&&Kq P l fs))
 |_,_=>false
end
mutual
def nF(h:AY):Sh→List Value→Prop
 | .int k,cs=> ∃n,cs=[.int k n]∧(Lit.int k n).wf=true
 | .bool,cs=> ∃b,cs=[.bool b]
 | .str,cs=> ∃s:ByteArray,cs=[.string s]∧s.size≤maxLen
 | .st n l,cs=>cs.length=n∧bT h l cs
 | .sl n s,cs=>cs=[.slice none 0 0]∨ ∃(a:Addr) (len cap:Nat),cs=[.slice (some a) len cap]∧len≤cap∧cap≤maxLen∧
   ∀i,i<len→ ∃es,es.length=n∧(∀j,j<n→G9 h ((a.add (i*n)).add j)=es[j]?)∧nF h s es
def bT(h:AY):List (Nat×Nat×Sh)→List Value→Prop
 | [],_=>True
 |(o,n,s)::l,cs=>nF h s ((cs.drop o).take n)∧bT h l cs
end
section
variable {H:Type} {enc:TypeId×Value→H} {P:Program} {w:World} {base:Nat} {sp:Nat→Bool} {held:Bool}
mutual
theorem VE(s:Sh)(t:TypeId)(fuel:Nat)(cs:List Value)(x:DataW H×List MemPlace)(hs:Jw P s t=true)(h:DataW.trod enc P w base sp held fuel t cs=some x):nF w.heap s cs:=by
 cases s with
 | int k=>
  simp only[Jw]at hs
  split at hs
  ·rename_i k' ht
   have:k'=k:=by simpa using hs
   subst this
   obtain⟨n,h1,_,h2⟩:=DataW.trod_int ht h
   exact⟨n,h1,h2⟩
  ·cases hs
 | bool=>
  simp only[Jw]at hs
  split at hs
  ·rename_i ht
   obtain⟨b,h1,_⟩:=DataW.trod_bool ht h
   exact⟨b,h1⟩
  ·cases hs
 | str=>
  simp only[Jw]at hs
  split at hs
  ·rename_i ht
   obtain⟨b,h1,_,h2⟩:=DataW.trod_string ht h
   exact⟨b,h1,h2⟩
  ·cases hs
 | st n l=>
  simp only[Jw]at hs
  split at hs
  ·rename_i fs ht
   simp only[Bool.and_eq_true,decide_eq_true_eq]at hs
   obtain⟨xs,m,rfl,_,h1,h2,h3⟩:=DataW.trod_struct ht h
   refine⟨h1.trans hs.1,Rb l fs.toList m cs hs.2 fun f hf=> ?_⟩
   obtain⟨i,hi⟩:=List.getElem?_of_mem hf
   have hi':fs[i]? =some f:=by simpa using hi
   have:=h3 i f hi'
   have hlt:i<xs.length:=by rw[h2];exact(Array.getElem?_eq_some_iff.1 hi').1
   exact⟨xs[i],by rw[this,List.getElem?_eq_getElem hlt]⟩
  ·cases hs
 | sl n s=>
  simp only[Jw]at hs
  split at hs
  ·rename_i e ht
   simp only[Bool.and_eq_true,decide_eq_true_eq]at hs
   obtain⟨hn,hs⟩:=hs
   rcases DataW.trod_slice ht h with⟨h0,_⟩|⟨a,len,cap,elems,rest,m,rfl,hcs,_,_,h1,h2,h3,h4,_⟩
   ·exact .inl h0
   ·refine .inr ⟨a,len,cap,hcs,h1,h2,fun i hi=> ?_⟩
    have h5:=h4 i hi
    rw[hn]at h5
    have hlt:i<elems.length:=by omega
    rw[List.getElem?_eq_getElem hlt,Option.bind_eq_some_iff]at h5
    obtain⟨es,h6,h7⟩:=h5
    obtain⟨_,h8,h9⟩:=World.cells?_some h6
    exact⟨es,h8,fun j hj=>by rw[←h9 j hj];rfl,VE s e m es _ hs h7⟩
  ·cases hs
theorem Rb(l:List (Nat×Nat×Sh))(fs:List Field)(m:Nat)(cs:List Value)(hs:Kq P l fs=true)
  (h: ∀f∈fs,∃x,DataW.trod enc P w base sp held m f.type ((cs.drop f.offset).take (P.cellsOf f.type))=some x):bT w.heap l cs:=by
 cases l with
 |nil=>trivial
 | cons p l=>
  obtain⟨o,n,s⟩:=p
  cases fs with
  |nil=>simp[Kq]at hs
  |cons f fs=>
   simp only[Kq,Bool.and_eq_true,decide_eq_true_eq]at hs
   obtain⟨rfl,rfl,h1,h2⟩:=hs
   obtain⟨x,hx⟩:=h f (List.mem_cons_self ..)
   exact⟨VE s f.type m _ x h1 hx,Rb l fs m cs h2 fun g hg=>h g (List.mem_cons_of_mem _ hg)⟩
end
end
end Go.Vm
