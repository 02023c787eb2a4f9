/-
Builders of texts over known blocks: bytes read as a text, the way of a pointer through one that has no type.
Conditions: none. Generic: it speaks of no program.
-/
import Derived.Test.YtfphceknmgadgaaGreatDoorVmAR
import Derived.Lib.UnsafeStr
import Derived.Lib.Builder
import Derived.Laws.BytesArg
set_option linter.unusedSimpArgs false
set_option linter.unusedVariables false
namespace Go.Vm
section
variable (P:Program) (imp:Imp) (nt:Nat) (ν:Nu) (n:Nat) (ρ:Bc) (A:AH) (K:Nu→Nat→Bc→AH→Prop) (K1:Nu→Nat→Value→AH→Prop)
variable (dst:Option Nat) (ty:TypeId) (pos:String) (aft:Array Edge) (gd:Option (Nat×Bool))
theorem AK(xs:List Operand)(ts:Array TypeId):CB P imp nt ⟨dst,.call ⟨.builtin .unsafeSliceData,xs.toArray,ts⟩,ty,pos,aft,gd⟩ ν n ρ A K=A9 (G8 ρ xs) fun vs=>K8 P (Builtin.unsafeSliceData_ ts ty vs.toArray) A ν n fun ν n u A=>BL nt dst u ρ fun ρ'=>K ν n ρ' A:=rfl
theorem AJ(xs:List Operand)(ts:Array TypeId):CB P imp nt ⟨dst,.call ⟨.builtin .unsafeString,xs.toArray,ts⟩,ty,pos,aft,gd⟩ ν n ρ A K=A9 (G8 ρ xs) fun vs=>FP P (Builtin.unsafeString_ ts ty vs.toArray) A ν n fun ν n u A=>BL nt dst u ρ fun ρ'=>K ν n ρ' A:=rfl
theorem AU(xs:Array Operand)(ts:Array TypeId):B4 imp (.call ⟨.builtin .unsafeSliceData,xs,ts⟩)=false:=rfl
theorem AR(xs:Array Operand)(ts:Array TypeId):B4 imp (.call ⟨.builtin .unsafeString,xs,ts⟩)=false:=rfl
theorem Ab(s d t:TypeId)(x:Value):J2 P s d (some (.pointer t)) (some .unsafePointer) x A ν n K1=FP P (convert s d x) A ν n K1:=rfl
theorem Ac(s d t:TypeId)(x:Value):J2 P s d (some .unsafePointer) (some (.pointer t)) x A ν n K1=FP P (convert s d x) A ν n K1:=rfl
end
theorem SA{P:Program}{ts:Array TypeId}{ty:TypeId}{A:AH}{a:Addr}{n c:Nat}(hc:c≠0):F3 P (Builtin.unsafeSliceData_ ts ty #[.slice (some a) n c]) A=some (.pointer (some a)):=
 LU fun w _=>Lib.run_unsafeSliceData_row (P:=P) (w:=w) _ _ _ _ _ hc
theorem PW{P:Program}{ts:Array TypeId}{ty:TypeId}{A:AH}:F3 P (Builtin.unsafeSliceData_ ts ty #[.slice none 0 0]) A=some (.pointer none):=
 LU fun w _=>Lib.run_unsafeSliceData_nil (P:=P) (w:=w) _ _ _ _
def XJ(l:List UInt8):List Value:=l.map fun c=>.int .u8 (c.toNat:Int)
theorem nE(l:List UInt8):(XJ l).length=l.length:=by simp[XJ]
theorem ZX(a b:List UInt8):XJ (a++b)=XJ a++XJ b:=by simp[XJ]
theorem iK{P:Program}{pt it ty:TypeId}{A:AH}{K:Value→AH→Prop}(hK:K (.string ⟨#[]⟩) A):Ja P (Builtin.unsafeString_ #[pt,it] ty #[.pointer none,.int .i64 0]) A K:=fun h hA w hw=>
 ⟨_,w,Lib.run_unsafeString_none (P:=P) (w:=w) pt it ty none,⟨rfl,rfl,rfl⟩,A,by rw[hw];exact hA,by rw[hw];exact Cc.refl _ _,hK⟩
theorem Wl(h:AX)(g:Nat)(f:Obj→Obj)(o:Obj)(hg:h[g]? =some o):h.modify g f=h.setIfInBounds g (f o):=by
 apply Array.ext_getElem?
 intro i
 rw[Array.getElem?_modify,Array.getElem?_setIfInBounds]
 split
 ·rename_i e
  subst e
  rw[hg,if_pos (Array.getElem?_eq_some_iff.1 hg).1]
  rfl
 ·rfl
theorem oH{P:Program}{pt it ty e:TypeId}{A:AH}{K:Value→AH→Prop}{g:Nat}{cur:Array Value}{l:List UInt8}(hp:P.underlying pt=some (.pointer e))(hc:P.cellsOf e=1)(hg:AA A g=some (.cells cur e))(h0:l≠[])
  (hr:cur.toList.take l.length=XJ l) (h63:l.length≤9223372036854775807) (hK:K (.string ⟨l.toArray⟩) (Fc A g (.cells cur e (0,l.length)))):Ja P (Builtin.unsafeString_ #[pt,it] ty #[.pointer (some ⟨g,0,none⟩),.int .i64 (l.length:Int)]) A K:=by
 intro h hA w hw
 subst hw
 have hgw:=hA _ _ hg
 have hn:l.length≤cur.size:=by
  have:=congrArg List.length hr
  have h2:cur.toList.length=cur.size:=by simp
  rw[nE,List.length_take]at this
  omega
 have hrun:=Lib.run_unsafeString_row (P:=P) (w:=w) pt it ty e hp hc g cur.size (by simp[World.shape?,hgw]) l h0 hn h63 (fun j x hx=>by
  rw[FZ]
  simp only[World.cell?,hgw]
  have hj:=(List.getElem?_eq_some_iff.1 hx).1
  have h1:(cur.toList.take l.length)[j]? =some (.int .u8 x.toNat):=by rw[hr];simp[XJ,hx]
  rw[List.getElem?_take,if_pos hj]at h1
  simpa using h1)
 have hl:l.length≠0:=fun e=>h0 (List.eq_nil_of_length_eq_zero e)
 have hh:(w.freeze ⟨g,0,none⟩ l.length).heap=w.heap.setIfInBounds g (.cells cur e (0,l.length)):=by
  unfold World.freeze
  rw[if_neg hl]
  simp only
  rw[Wl _ _ _ _ hgw]
  simp
 have ps:=SV (u:=.cells cur e (0,l.length)) hA hg
 refine⟨_,_,hrun, ?_,Fc A g (.cells cur e (0,l.length)),by rw[hh];exact ps.1,by rw[hh];exact ps.2,hK⟩
 unfold World.freeze
 rw[if_neg hl]
 exact⟨rfl,rfl,rfl⟩
theorem rA_toU{P:Program}{src dst t e:TypeId}{j:TypeInfo}{A:AH}{K:Value→AH→Prop}{b:Nat}{cs:Array Value}{fr:Nat×Nat}(hs:P.underlying src=some (.pointer t))(hd:P.underlying dst=some .unsafePointer)(ht:P.info? t=some j)(hj:j.size≠0)
  (hb:AA A b=some (.cells cs e fr)) (hc:0<cs.size) (hK:K (.pointer (some ⟨b,0,none⟩)) A):Ja P (convert src dst (.pointer (some ⟨b,0,none⟩))) A K:=fun h hA w hw=>by
 subst hw
 have hbw:=hA _ _ hb
 exact⟨_,w,Lib.run_to_unsafe (w:=w) (e:=e) (cells:=cs.size) ⟨b,0,none⟩ hs hd ht hj (by simp[World.shape?,hbw]) hc,⟨rfl,rfl,rfl⟩,A,hA,Cc.refl _ _,hK⟩
theorem gV{P:Program}{src dst u e:TypeId}{j:TypeInfo}{A:AH}{K:Value→AH→Prop}{b:Nat}{cs:Array Value}{fr:Nat×Nat}(hs:P.underlying src=some .unsafePointer)(hd:P.underlying dst=some (.pointer u))(hu:P.info? u=some j)
  (hb:AA A b=some (.cells cs e fr)) (hl:liesAt P P.depth e (cs.size / P.cellsOf e) 0 u 1=true) (hK:K (.pointer (some ⟨b,0,none⟩)) A):Ja P (convert src dst (.pointer (some ⟨b,0,none⟩))) A K:=fun h hA w hw=>by
 subst hw
 have hbw:=hA _ _ hb
 exact⟨_,w,Lib.run_from_unsafe (w:=w) (e:=e) (cells:=cs.size) ⟨b,0,none⟩ hs hd hu (by simp[World.shape?,hbw]) hl,⟨rfl,rfl,rfl⟩,A,hA,Cc.refl _ _,hK⟩
end Go.Vm
