/-
Maps with string keys: looking up, setting and deleting.
Conditions: none. Generic: it speaks of no program.
-/
import Derived.MapKept
import Derived.WideMake
import Derived.Test.YtfphceknmgadgaaGreatDoorVmAppend
set_option linter.unusedSimpArgs false
set_option linter.unusedVariables false
namespace Go.Vm
abbrev KB:=List (ByteArray×Value)
def J6(es:List MapEntry)(m:KB):Prop:=es.map (fun e=>(e.key,e.val))=m.map fun p=>(Value.string p.1,p.2)
def HY(es:Array MapEntry)(m:KB):Prop:=J6 es.toList m
def JW:KB→ByteArray→Option (Nat×Value)
 | [],_=>none
 |(k,v)::l,s=>if s=k then some (0,v)else(JW l s).map fun p=>(p.1+1,p.2)
def HZ(m:KB)(s:ByteArray):Option Value:=(JW m s).map (·.2)
def Pa(m:KB)(s:ByteArray)(v:Value):KB:=match JW m s with|some p=>m.set p.1 (s,v)|none=>m++[(s,v)]
theorem HB(s:ByteArray): ∀(l:List MapEntry) (m:KB) (i:Nat),J6 l m→Instr.findNow .string (.string s) l i=some ((JW m s).map fun p=>(i+p.1,p.2))
 | [],[],_,_=>rfl
 | [],p::m,_,h=>by simp[J6]at h
 |e::l,[],_,h=>by simp[J6]at h
 | e::l,(k,v)::m,i,h=>by
  simp only[J6,List.map_cons,List.cons.injEq,Prod.mk.injEq]at h
  obtain⟨⟨h1,h2⟩,h3⟩:=h
  have ih:=HB s l m (i+1) h3
  obtain⟨r,hr,hiff⟩:=MapKept.sameNow_of_keys (d:=.string) (a:=.string s) (b:=.string k) trivial trivial
  simp only[Instr.findNow,h1,hr,JW]
  by_cases hk:s=k
  ·obtain rfl:r=true:=hiff.2 (by rw[hk])
   simp[h2,hk]
  ·have:r=false:=by
    cases r with
    |false=>rfl
    |true=>exact absurd (hiff.1 rfl) (by simpa using hk)
   subst this
   simp only[ih,hk,if_false]
   cases JW m s with
   |none=>rfl
   |some p=>simp;omega
theorem bj{m:KB}{s:ByteArray}{j:Nat}{v:Value}:JW m s=some (j,v)→m[j]? =some (s,v):=by
 induction m generalizing j with
 |nil=>intro h;simp[JW]at h
 | cons p m ih=>
  obtain⟨k,w⟩:=p
  intro h
  simp only[JW]at h
  split at h
  ·rename_i e
   simp only[Option.some.injEq,Prod.mk.injEq]at h
   obtain⟨rfl,rfl⟩:=h
   rw[e]
   rfl
  ·cases hp:JW m s with
   |none=>rw[hp]at h;cases h
   |some q=>
    rw[hp]at h
    simp only[Option.map_some,Option.some.injEq,Prod.mk.injEq]at h
    obtain⟨rfl,rfl⟩:=h
    simpa using ih (j:=q.1) (by rw[hp])
theorem bx{es:Array MapEntry}{m:KB}(h:HY es m){j:Nat}{s:ByteArray}{v:Value}(hj:m[j]? =some (s,v)): ∃e,es[j]? =some e∧e.key=.string s∧e.val=v:=by
 have h1:(es.toList.map fun e=>(e.key,e.val))[j]? =some (Value.string s,v):=by rw[h];simp[hj]
 rw[List.getElem?_map]at h1
 cases he:es.toList[j]? with
 |none=>rw[he]at h1;cases h1
 |some e=>
  rw[he]at h1
  simp only[Option.map_some,Option.some.injEq,Prod.mk.injEq]at h1
  exact⟨e,by simpa using he,h1.1,h1.2⟩
theorem mX{P:Program}{t:TypeId}{z:Value}{w:World}(hz:DU P t=some z):(zeroValue t).run P w=.ok z w:=by
 unfold DU at hz
 cases hi:P.info? t with
 |none=>simp[hi]at hz
 |some i=>simp[hi]at hz;simp[zeroValue,typeInfo,hi,hz]
section
variable {P:Program} {t kt et:TypeId} {r cl:Nat} {es:Array MapEntry} {m:KB} {s:ByteArray} {h:AX} {K:Value→AX→Prop}
theorem cg{v:Value}(ht:P.underlying t=some (.map kt et))(hk:P.underlying kt=some .string)(hr:h[r]? =some (.map es cl))(hm:HY es m)
  (hK: ∀es' cl',HY es' (Pa m s v)→K undef (h.setIfInBounds r (.map es' cl'))):Db P (do Instr.mapUpdate t (.map (some r)) (.string s) v;Pure.pure undef) h K:=by
 intro w hw
 subst hw
 have hc:(Instr.checkKey false 10000 kt (.string s)).run P w=.ok () w:=MapKept.run_checkKey (k:=.string s) hk (by simp[MapKept.IsKey]) false 9999
 have hf:=MapKept.run_findKey (w:=w) hk (HB s es.toList m 0 hm)
 cases hp:JW m s with
 | none=>
  refine⟨undef,{w with heap:=w.heap.setIfInBounds r (.map (es.push {key:=.string s,val:=v,born:=cl}) (cl+1))}, ?_,⟨rfl,rfl,rfl⟩,hK _ _ ?_⟩
  ·simp[Instr.mapUpdate,run_underlying ht,MapKept.run_getObj_map hr,hc,hf,hp,MapKept.run_setObj_map _ hr,Result.andThen]
  ·unfold HY J6 at*
   simp[Pa,hp,hm]
 | some p=>
  obtain⟨j,u⟩:=p
  have hj:=bj hp
  obtain⟨e,he,he1,he2⟩:=bx hm hj
  have hsb:Instr.sameBits 10000 (.string s) (.string s)=true:=by simp[Instr.sameBits,MapKept.bytes_beq]
  refine⟨undef,{w with heap:=w.heap.setIfInBounds r (.map (es.modify j fun e=>{e with key:=.string s,val:=v}) cl)}, ?_,⟨rfl,rfl,rfl⟩,hK _ _ ?_⟩
  ·simp[Instr.mapUpdate,run_underlying ht,MapKept.run_getObj_map hr,hc,hf,hp,MapKept.run_setObj_map _ hr,Result.andThen,he,he1,Instr.keyThatStays,hsb]
  ·unfold HY J6 at*
   simp only[Pa,hp]
   apply List.ext_getElem?
   intro i
   have hmi:(es.toList.map fun e=>(e.key,e.val))[i]? =(m.map fun p=>(Value.string p.1,p.2))[i]? :=by rw[hm]
   simp only[List.getElem?_map]at hmi⊢
   rw[List.getElem?_set]
   simp only[Array.getElem?_toList,Array.getElem?_modify]at hmi⊢
   by_cases hij:j=i
   ·subst hij
    have hlt:j<m.length:=by have:=(List.getElem?_eq_some_iff.1 hj).1;exact this
    simp[he,hlt]
   ·simp[hij,hmi]
end
theorem HY.nil:HY #[] []:=rfl
end Go.Vm
