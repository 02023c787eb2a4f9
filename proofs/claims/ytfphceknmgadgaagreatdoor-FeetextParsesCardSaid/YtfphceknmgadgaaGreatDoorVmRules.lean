/-
Rules for the operations whose meaning stands in the model's own terms (ranges over strings), and how heaps grow.
Conditions: none. Generic: it speaks of no program.
-/
import Derived.Laws.RangeAny
import Derived.Laws.Externs
import Derived.Below
import Derived.Test.YtfphceknmgadgaaGreatDoorVmHeld
set_option linter.unusedSimpArgs false
set_option linter.unusedVariables false
namespace Go.Vm
structure Grew(h h':AY):Prop where
 le:h.size≤h'.size
 old: ∀k,k<h.size→h'[k]? =h[k]?
theorem Grew.refl(h:AY):Grew h h:=⟨Nat.le_refl _,fun _ _=>rfl⟩
theorem Grew.trans{a b c:AY}(h:Grew a b)(k:Grew b c):Grew a c:=⟨Nat.le_trans h.le k.le,fun i hi=>(k.old i (Nat.lt_of_lt_of_le hi h.le)).trans (h.old i hi)⟩
theorem Grew.push(h:AY)(o:Obj):Grew h (h.push o):=⟨by simp,fun k hk=>by simp[Array.getElem?_push,Nat.ne_of_lt hk]⟩
theorem Grew.pushed{h h':AY}(e:Grew h h')(o:Obj):Grew h (h'.push o):=e.trans (.push h' o)
theorem Grew.set{h h':AY}(e:Grew h h'){k:Nat}(hk:h.size≤k)(o:Obj):Grew h (h'.setIfInBounds k o):=⟨by simpa using e.le,fun i hi=>by
 rw[Array.getElem?_setIfInBounds_ne (by omega)];exact e.old i hi⟩
theorem Grew.get{h h':AY}(e:Grew h h'){k:Nat}{o:Obj}(hk:h[k]? =some o):h'[k]? =some o:=by
 rw[e.old k (Array.getElem?_eq_some_iff.1 hk).1,hk]
theorem below_of_grew{w w':World}(e:Grew w.heap w'.heap)(r:BV w w'):RowKit.Below w.heap.size w w':=⟨r.1,r.2.1,r.2.2,e.le,e.old⟩
theorem Kz{P:Program}{t:TypeId}{s:ByteArray}{h:AY}{K:Value→AY→Prop}(ht:P.underlying t=some .string)
  (hK:K (.pointer (some ⟨h.size,0,none⟩)) (h.push (.stringIter s 0))):DA P (Instr.range t (.string s)) h K:=by
 intro w hw
 subst hw
 refine⟨_,{w with heap:=w.heap.push (.stringIter s 0)}, ?_,⟨rfl,rfl,rfl⟩,hK⟩
 simp[Instr.range,underlying,ht,newObj,Sem.run,Result.andThen]
theorem M4{P:Program}{ty:TypeId}{s:ByteArray}{h:AY}{K:Value→AY→Prop}{r pos:Nat}(hr:h[r]? =some (.stringIter s pos))
  (hK:if pos<s.size then K (.tuple #[.bool true,.int .i64 pos,.int .i32 (Utf8.decode s pos).1]) (h.setIfInBounds r (.stringIter s (pos+(Utf8.decode s pos).2)))else K (.tuple #[.bool false]) h):DA P (Instr.next (.pointer (some ⟨r,0,none⟩)) true ty) h K:=by
 intro w hw
 subst hw
 split at hK
 ·rename_i hp
  refine⟨_,{w with heap:=w.heap.setIfInBounds r (.stringIter s (pos+(Utf8.decode s pos).2))}, ?_,⟨rfl,rfl,rfl⟩,hK⟩
  simp only[Instr.next,getObj,setObj,Sem.run_bind,Sem.run,Result.andThen,hr,hp,if_true]
  simp[goInt,Sem.run,Result.andThen]
 ·rename_i hp
  refine⟨_,w, ?_,⟨rfl,rfl,rfl⟩,hK⟩
  simp only[Instr.next,getObj,setObj,Sem.run_bind,Sem.run,Result.andThen,hr,hp,if_false]
  simp[goInt]
theorem QC: ∀(ρ:Ba) (t:Nat) (v:Value),get ρ t=some v→(t,some v)∈ρ
 | [],_,_,h=>by cases h
 |(s,u)::ρ,t,v,h=>by
  unfold get at h
  split at h
  ·rename_i e;subst e;subst h;exact List.mem_cons_self ..
  ·exact List.mem_cons_of_mem _ (QC ρ t v h)
def BW:Ba→Ba→Prop
 | [],_=>True
 |(s,v)::ρ,ρ'=>get ρ' s=v∧BW ρ ρ'
theorem Mm{ρ':Ba}: ∀{ρ:Ba},BW ρ ρ'→ ∀p∈ρ,get ρ' p.1=p.2
 | [],_,_,h=>by cases h
 |(s,v)::ρ,hs,p,h=>by
  rcases List.mem_cons.1 h with rfl|h
  ·exact hs.1
  ·exact Mm hs.2 p h
theorem Bh.weak[dd:DefD]{c:Cx}{body:Code}{k:List It}{ρ ρ':Ba}{h:AY}(hl: @Bh dd c body k ρ h ())(hs:BW ρ ρ'): @Bh dd c body k ρ' h ():=
 fun hf b a w h1 h2 hk hw=>hl hf b a w h1 h2 ⟨hk.1,hk.2.1,fun t v ht=>hk.2.2 t v (Mm hs _ (QC ρ t v ht))⟩ hw
theorem Ak{n:Int}(h1: -9223372036854775808≤n)(h2:n<9223372036854775808):IntKind.i64.wrap n=n:=by
 simp only[IntKind.wrap,IntKind.bits,IntKind.signed,Bool.true_and,Nat.reduceSub]
 split<;>rename_i h<;>simp at h<;>omega
theorem QZ{n:Int}(h1: -2147483648≤n)(h2:n<2147483648):IntKind.i32.wrap n=n:=by
 simp only[IntKind.wrap,IntKind.bits,IntKind.signed,Bool.true_and,Nat.reduceSub]
 split<;>rename_i h<;>simp at h<;>omega
theorem Ha{n:Int}(h1:0≤n)(h2:n<256):IntKind.u8.wrap n=n:=by
 simp only[IntKind.wrap,IntKind.bits,IntKind.signed,Bool.false_and,Bool.false_eq_true,if_false]
 omega
theorem W7:(ByteArray.mk #[]).toList=[]:=by rw[ByteArray.toList_eq]
theorem Xx(h:AY)(o:Obj)(k:Nat):(Array.push h o)[k]? =if k=Array.size h then some o else h[k]? :=Array.getElem?_push
theorem bN(h:AY)(i j:Nat)(o:Obj):(Array.setIfInBounds h i o)[j]? =if i=j then(if i<Array.size h then some o else none)else h[j]? :=Array.getElem?_setIfInBounds
theorem oq(h:AY)(o o':Obj)(k:Nat):Array.setIfInBounds (Array.push h o) k o'=if k=Array.size h then Array.push h o' else Array.push (Array.setIfInBounds h k o') o:=by
 apply Array.ext_getElem?
 intro i
 by_cases hk:k=Array.size h
 ·rw[if_pos hk,bN,Xx,Xx]
  simp only[Array.size_push]
  grind
 ·rw[if_neg hk,bN,Xx,Xx]
  simp only[Array.size_push,bN,Array.size_setIfInBounds]
  grind
theorem p9(h:AY)(i:Nat)(o o':Obj):Array.setIfInBounds (Array.setIfInBounds h i o) i o'=Array.setIfInBounds h i o':=by simp
theorem gZ(h:AY)(i:Nat)(o:Obj):Array.size (Array.setIfInBounds h i o)=Array.size h:=by simp
theorem nU{P:Program}{f:FuncId}{fn:Func}{e:Array Value→Sem Value}{args:Array Value}{h:AY}{Q:Ending→AY→Prop}{v:Value}(hf:P.funcs[f]? =some fn)(hname:(fn.name== "runtime.NumGoroutine")=false)
  (hb:fn.body.isNone=true) (hn:Extern.findNext fn=none) (he:Extern.find fn=some e) (hr: ∀w:World,(e args).run P w=.ok v w) (hQ:Q (.returned v) h):bx P f args h Q:=by
 intro w hw
 subst hw
 refine⟨v,w, ?_,⟨rfl,rfl,rfl⟩,hQ⟩
 rw[run_callFunc_extern hf hname hb hn he,hr]
 rfl
end Go.Vm
